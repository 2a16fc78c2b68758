/- Texts behind TestsMore, part 30: contracts of the program's functions and the plain words for them. -/
import Derived.Deep.Slices
import Derived.Deep.Strs
import Derived.ProofKit
import Derived.OpenShut
import Derived.Lib.SmallJoins
import Derived.Lib.LaidTab
import Derived.Stop.LaidErr
import Derived.Test.YtekmiepdodaidaaDoorRows
import Derived.LaidMore
import Derived.Stop.Joined
import Derived.LaidHandle
import Derived.ChangeOld
import Derived.Test.YtekmiepdodaidaaDoorTpaa
import Derived.Test.YtekmiepdodaidaaDoorTpas
import Derived.Test.YtekmiepdodaidaaDoorTpbc
section
/- tickinglaw07.TestsMore, by hand: walked with what is known of the program's answers. -/
set_option linter.unusedVariables false
set_option linter.unusedSimpArgs false
namespace Go.Proofs.YtekmiepdodaidaaDoor.X
open Go.RowKit Go.Proofs.YtekmiepdodaidaaDoorW.PrintWords Go.Proofs.YtekmiepdodaidaaDoorW.PrintLast Go.Proofs.YtekmiepdodaidaaDoorW.PrintMore

def capX (x : Int) : Int := wrap64 (1 + modN (wrap64 (x - 1)) 20)
theorem capX_in (x : Int) : 1 ≤ capX x ∧ capX x ≤ 20 := by
 have := modN_in (wrap64 (x - 1)) 20 (by omega)
 unfold capX
 generalize modN (wrap64 (x - 1)) 20 = m at this ⊢
 unfold wrap64; omega
theorem dear_in {k x : Int} (hk : 1 ≤ k ∧ k ≤ 5) (hx : 1 ≤ x ∧ x ≤ 20) : k * x ≤ 100 ∧ wrap64 (k * x) = k * x := by
 have h1 : k * x ≤ 5 * 20 := Int.mul_le_mul hk.2 hx.2 (by omega) (by omega)
 have h2 : 0 ≤ k * x := Int.mul_nonneg (by omega) (by omega)
 refine ⟨by omega, ?_⟩
 generalize k * x = z at h1 h2 ⊢
 unfold wrap64; omega
theorem dear_val {k v : Int} (hk : 1 ≤ k ∧ k ≤ 5) (hv : 0 ≤ v ∧ v ≤ 1024000000) : wrap64 (k * v) = k * v := by
 have h1 : k * v ≤ 5 * 1024000000 := Int.mul_le_mul hk.2 hv.2 (by omega) (by omega)
 have h2 : 0 ≤ k * v := Int.mul_nonneg (by omega) (by omega)
 generalize k * v = z at h1 h2 ⊢
 unfold wrap64; omega
theorem one_to {m : Int} {n : Int} (h : 0 ≤ m ∧ m < n) (hn : n ≤ 1000) : wrap64 (1 + m) = 1 + m := by unfold wrap64; omega
theorem cap_differ {a : List Int} {b : List (List Int)} {c : List Int} (D : Differ a b c) : Differ a b (c.map capX) :=
 ⟨⟨D.is.a1, D.is.a10, D.is.b12, by rw [List.length_map]; exact D.is.cb, D.is.wa, fun x hx => by obtain ⟨y, _, rfl⟩ := List.mem_map.1 hx; have := capX_in y; omega, D.is.rows⟩, D.al⟩
def mulK (k v : Int) : Int := wrap64 (k * v)
/-- The law's own places. -/
structure M8At (w : World) (B0 : Option Addr) (d0 : Nat) (a : List Int) (B1 : Option Addr) (d1 : Nat) (b : List (List Int)) (B2 : Option Addr) (d2 : Nat) (c : List Int) (g dg : Nat) (x y : Int) (w' : World) : Prop where
 l : LawW w B0 d0 a B1 d1 b B2 d2 c g w'
 dx : w'.heap[dg]? = some (.cells #[.int .i64 x, .int .i64 y] 53 (0, 0))
theorem M8At.below {w : World} {B0 : Option Addr} {d0 : Nat} {a : List Int} {B1 : Option Addr} {d1 : Nat} {b : List (List Int)} {B2 : Option Addr} {d2 : Nat} {c : List Int} {g dg : Nat} {x y : Int} {w' w2 : World} (h : M8At w B0 d0 a B1 d1 b B2 d2 c g dg x y w') (hb : Below w'.heap.size w' w2) : M8At w B0 d0 a B1 d1 b B2 d2 c g dg x y w2 := ⟨h.l.below hb, blk_below h.dx hb⟩
theorem M8At.cells {w : World} {B0 : Option Addr} {d0 : Nat} {a : List Int} {B1 : Option Addr} {d1 : Nat} {b : List (List Int)} {B2 : Option Addr} {d2 : Nat} {c : List Int} {g dg : Nat} {x y : Int} {w' : World} (h : M8At w B0 d0 a B1 d1 b B2 d2 c g dg x y w') : w'.cell? ⟨g, 0, none⟩ = some (.slice B0 a.length d0) ∧ w'.cell? ⟨g, 1, none⟩ = some (.slice B1 b.length d1) ∧ w'.cell? ⟨g, 2, none⟩ = some (.slice B2 c.length d2) ∧ w'.cell? ⟨dg, 0, none⟩ = some (.int .i64 x) ∧ w'.cell? ⟨dg, 1, none⟩ = some (.int .i64 y) :=
 ⟨h.l.cells.1, h.l.cells.2.1, h.l.cells.2.2, (blk_cell h.dx 0).trans rfl, (blk_cell h.dx 1).trans rfl⟩
section
variable {A0 : Option Addr} {c0 : Nat} {a : List Int} {A1 : Option Addr} {c1 : Nat} {b : List (List Int)} {A2 : Option Addr} {c2 : Nat} {c : List Int} {w : World}
set_option maxHeartbeats 16000000 in
set_option maxRecDepth 100000 in
theorem more_n (h : CaseAt w A0 c0 a A1 c1 b A2 c2 c) (AS : Option Addr) (cs : Nat) (s : List Int) (hs : s.length ≤ cs ∧ Kd.C (Kd.int .i64) w AS s.length s) (x y : Int) (hT : Tab w) :
  Calls Tryd.prog 8 #[.agg #[.slice A0 a.length c0, .slice A1 b.length c1, .slice A2 c.length c2], .slice AS s.length cs, .agg #[.int .i64 x, .int .i64 y]] w fun e w' => e = .returned (.bool true) ∧ Below w.heap.size w w' := by
 have H := Aside0.mk h
 have HSL := Aside0.mk hs
 have HT := Aside0.mk hT
 have D := tame_differ a b c
 have hb10 := tameB_len a b
 have hk6 : tameK b ≤ 6 := Nat.min_le_right _ _
 obtain ⟨ta, hta⟩ : ∃ ta, ta = tameW a := ⟨_, rfl⟩
 obtain ⟨tb, htb⟩ : ∃ tb, tb = tameB a b := ⟨_, rfl⟩
 obtain ⟨tc, htc⟩ : ∃ tc, tc = tameC b c := ⟨_, rfl⟩
 have HTS := Aside0.mk (fun (W : World) (hb : Below w.heap.size w W) => tame_n (H.out.below hb))
 unfold TamePost at HTS
 rw [← hta, ← htb, ← htc] at HTS D
 rw [← htb] at hb10
 have htb10 : tb.length ≤ 10 := by omega
 have hcb0 := D.is.cb
 obtain ⟨cc, hcc⟩ : ∃ cc, cc = tc.map capX := ⟨_, rfl⟩
 have D1 := cap_differ D
 rw [← hcc] at D1
 have hcl : cc.length = tc.length := by rw [hcc]; exact List.length_map ..
 have hcin : ∀ v ∈ cc, 1 ≤ v ∧ v ≤ 20 := fun v hv => by rw [hcc] at hv; obtain ⟨y, _, rfl⟩ := List.mem_map.1 hv; exact capX_in y
 have hn10 := D.is.a10
 have hn1 := D.is.a1
 obtain ⟨nt, hnt⟩ : ∃ nt, nt = tc.length := ⟨_, rfl⟩
 have HTB := Aside0.mk (show tb.length = nt by rw [hnt, hcb0])
 have hnt10 : nt ≤ 10 := by rw [hnt, hcb0]; exact htb10
 have HNT := Aside0.mk hnt
 have HCL := Aside0.mk hcl
 have HCC := Aside0.mk hcc
 have HCI := Aside0.mk hcin
 have HD := Aside0.mk D1
 have HXB := Aside0.mk (modN_in x 20 (by omega))
 have HYB := Aside0.mk (modN_in y 5 (by omega))
 have HB := Aside0.mk (Below.refl w.heap.size w)
 clear h hs hT hta htb htc D D1 hb10 hk6 hcb0 hcc hcl hcin hnt
 go_enter Tryd.func8, Tryd.ntmps8
 go_upto_region 2 with (go_at_call 33; refine (HTS.out _ (below_alloc (below_alloc (Below.refl _ _) _) _)).mono ?_; rintro e w1 ⟨v0, v1, v2, rfl, h0, h1, h2, hb⟩; obtain ⟨B0, d0, rfl⟩ := Kd.R_slice h0; obtain ⟨B1, d1, rfl⟩ := Kd.R_slice h1; obtain ⟨B2, d2, rfl⟩ := Kd.R_slice h2; have HX := Aside0.mk (And.intro h0 (And.intro h1 h2)); have HB1 := Aside0.mk hb; clear h0 h1 h2 hb)
 obtain ⟨u, hu⟩ : ∃ u, u = (w.alloc (.cells #[.slice A0 a.length c0, .slice A1 b.length c1, .slice A2 c.length c2] 25)).alloc (.cells #[.int .i64 x, .int .i64 y] 53) := ⟨_, rfl⟩
 have hdx : u.heap[w.heap.size + 1]? = some (.cells #[.int .i64 x, .int .i64 y] 53 (0, 0)) := by
  have := blk_new (w.alloc (.cells #[.slice A0 a.length c0, .slice A1 b.length c1, .slice A2 c.length c2] 25)) (.cells #[.int .i64 x, .int .i64 y] 53)
  rw [size_alloc'] at this
  rw [hu]; exact this
 have HUB := Aside0.mk (show Below w.heap.size w u by rw [hu]; exact below_alloc (below_alloc (Below.refl _ _) _) _)
 rw [← hu] at HX HB1
 have HDX := Aside0.mk hdx
 clear hu hdx
 have HDB := Aside0.mk (show CwAt u B0 d0 ta B1 d1 tb B2 d2 tc.length (mapTo capX tc 0) w1.heap.size (w1.alloc (.cells #[.slice B0 ta.length d0, .slice B1 tb.length d1, .slice B2 tc.length d2] 25)) from ⟨blk_new _ _, Kd.R_below HX.out.1 (below_alloc (Below.refl _ _) _), Kd.R_below HX.out.2.1 (below_alloc (Below.refl _ _) _), by rw [mapTo_zero]; exact Kd.R_mono (Kd.R_below HX.out.2.2 (below_alloc (Below.refl _ _) _)) (fun _ _ => trivial), below_alloc HB1.out _⟩)
 have HG := Aside0.mk (show w.heap.size ≤ w1.heap.size from Nat.le_trans HUB.out.size HB1.out.size)
 rw [← HNT.out] at HDB ⊢
 generalize w1.alloc (.cells #[.slice B0 ta.length d0, .slice B1 tb.length d1, .slice B2 nt d2] 25) = w2 at HDB ⊢
 generalize w1.heap.size = g at HDB HG ⊢
 clear HX HB1 w1 HTS
 obtain ⟨z0, z1, z2⟩ := HDB.out.cells
 go_wp2
 clear z0 z1 z2
 go_loopg [9] nt (fun kq v9 w' => ∃ i : Nat, v9 = .int .i64 i ∧ Aside0 (kq + i = nt) ∧ Aside0 (CwAt u B0 d0 ta B1 d1 tb B2 d2 nt (mapTo capX tc i) g w'))
 case atStart => exact ⟨0, rfl, ⟨by omega⟩, HDB⟩
 case round =>
  clear HDB
  obtain ⟨i, rfl, HKI, HDI⟩ := hrel
  obtain ⟨k1, rfl⟩ : ∃ k1, k1 = gk := ⟨_, rfl⟩
  obtain ⟨z0, z1, z2⟩ := HDI.out.cells
  by_cases hi : i < nt
  --A(
  ·have hit : i < tc.length := by rw [← HNT.out]; exact hi
   obtain ⟨v, hv⟩ : ∃ v, tc[i] = v := ⟨_, rfl⟩
   obtain ⟨q, e2, hcw, hfw, hnx⟩ := HDI.out.put2 i hi (capX v)
   rw [mapTo_rd capX hit, hv] at hcw
   rw [← hv, mapTo_set capX hit, hv] at hnx
   subst e2
   have HNX := Aside0.mk hnx
   have hs1 := fun (w' : World) (hb : Below wr.heap.size wr w') => And.intro ((HDI.out.below hb).cells).2.2 (pw_cell_below hb hcw)
   have HS := Aside0.mk hs1
   have HCF := Aside0.mk (And.intro hcw hfw)
   clear hs1 hnx
   go_upto_region 6 with (fail)
   clear z0 z1 z2 hcw hfw
   have hi0 : (0 : Int) ≤ (i : Int) := by omega
   refine start_ (n := 13) (S := fun w' => w'.cell? ⟨g, 2, none⟩ = some (.slice (some ⟨q, 0, none⟩) nt d2) ∧ w'.cell? ⟨q, i, none⟩ = some (.int .i64 v)) (ds := [12]) #[false, false, false, false, false, false, false, false, false, false, false, false, false] (by kernel_rfl) rfl rfl (HS.out _ (below_drew (Below.refl _ _))) (fun hHeld => ?_)
   refine pure_ (i := 0) (N := (some 56)) (v := ?_) (a' := ?_) #[true, false, false, false, false, false, false, false, false, false, false, false, false] rfl rfl (by kernel_rfl) (fun _ _ _ h => h) (Or.inl ⟨by rfl, ?_⟩) ?_ ?_
   rotate_left
   ·intro w'
    go_simp
    with_reducible rfl
   rotate_left
   ·simp only [Act.put, List.setIfInBounds_toArray, List.set_cons_zero, List.set_cons_succ, i64_w, i32_w]
    rfl
   refine take_ (i := 1) (N := (some 57)) (v := ?_) (a' := ?_) #[true, true, false, false, false, false, false, false, false, false, false, false, false] rfl rfl (by kernel_rfl) (fun _ _ _ h => h) (Or.inl ⟨by rfl, ?_⟩) hHeld ?_ ?_
   rotate_left
   ·rintro w' ⟨s0, s1⟩
    go_simp
    with_reducible rfl
   rotate_left
   ·simp only [Act.put, List.setIfInBounds_toArray, List.set_cons_zero, List.set_cons_succ, i64_w, i32_w]
    rfl
   refine pure_ (i := 2) (N := (some 58)) (v := ?_) (a' := ?_) #[true, true, true, false, false, false, false, false, false, false, false, false, false] rfl rfl (by kernel_rfl) (fun _ _ _ h => h) (Or.inl ⟨by rfl, ?_⟩) ?_ ?_
   rotate_left
   ·intro w'
    go_simp
    with_reducible rfl
   rotate_left
   ·simp only [Act.put, List.setIfInBounds_toArray, List.set_cons_zero, List.set_cons_succ, i64_w, i32_w]
    rfl
   refine pure_ (i := 3) (N := (some 59)) (v := ?_) (a' := ?_) #[true, true, true, true, false, false, false, false, false, false, false, false, false] rfl rfl (by kernel_rfl) (fun _ _ _ h => h) (Or.inl ⟨by rfl, ?_⟩) ?_ ?_
   rotate_left
   ·intro w'
    go_simp
    with_reducible rfl
   rotate_left
   ·simp only [Act.put, List.setIfInBounds_toArray, List.set_cons_zero, List.set_cons_succ, i64_w, i32_w]
    rfl
   refine take_ (i := 4) (N := (some 60)) (v := ?_) (a' := ?_) #[true, true, true, true, true, false, false, false, false, false, false, false, false] rfl rfl (by kernel_rfl) (fun _ _ _ h => h) (Or.inl ⟨by rfl, ?_⟩) hHeld ?_ ?_
   rotate_left
   ·rintro w' ⟨s0, s1⟩
    go_simp
    with_reducible rfl
   rotate_left
   ·simp only [Act.put, List.setIfInBounds_toArray, List.set_cons_zero, List.set_cons_succ, i64_w, i32_w]
    rfl
   refine pure_ (i := 5) (N := (some 61)) (v := ?_) (a' := ?_) #[true, true, true, true, true, true, false, false, false, false, false, false, false] rfl rfl (by kernel_rfl) (fun _ _ _ h => h) (Or.inl ⟨by rfl, ?_⟩) ?_ ?_
   rotate_left
   ·intro w'
    go_simp
    with_reducible rfl
   rotate_left
   ·simp only [Act.put, List.setIfInBounds_toArray, List.set_cons_zero, List.set_cons_succ, i64_w, i32_w]
    rfl
   refine pure_ (i := 6) (N := (some 62)) (v := ?_) (a' := ?_) #[true, true, true, true, true, true, true, false, false, false, false, false, false] rfl rfl (by kernel_rfl) (fun _ _ _ h => h) (Or.inl ⟨by rfl, ?_⟩) ?_ ?_
   rotate_left
   ·intro w'
    go_simp
    with_reducible rfl
   rotate_left
   ·simp only [Act.put, List.setIfInBounds_toArray, List.set_cons_zero, List.set_cons_succ, i64_w, i32_w]
    rfl
   refine take_ (i := 7) (N := (some 63)) (v := ?_) (a' := ?_) #[true, true, true, true, true, true, true, true, false, false, false, false, false] rfl rfl (by kernel_rfl) (fun _ _ _ h => h) (Or.inl ⟨by rfl, ?_⟩) hHeld ?_ ?_
   rotate_left
   ·rintro w' ⟨s0, s1⟩
    go_simp
    with_reducible rfl
   rotate_left
   ·simp only [Act.put, List.setIfInBounds_toArray, List.set_cons_zero, List.set_cons_succ, i64_w, i32_w]
    rfl
   refine pure_ (i := 8) (N := (some 64)) (v := ?_) (a' := ?_) #[true, true, true, true, true, true, true, true, true, false, false, false, false] rfl rfl (by kernel_rfl) (fun _ _ _ h => h) (Or.inl ⟨by rfl, ?_⟩) ?_ ?_
   rotate_left
   ·intro w'
    go_simp
    with_reducible rfl
   rotate_left
   ·simp only [Act.put, List.setIfInBounds_toArray, List.set_cons_zero, List.set_cons_succ, i64_w, i32_w]
    rfl
   refine one_ (i := 9) (N := (some 65)) #[true, true, true, true, true, true, true, true, true, true, false, false, false] rfl rfl (by kernel_rfl) (by decide) (fun K hK => ?_)
   refine goes_ Tryd.func34 (by kernel_rfl) rfl #[.int .i64 (wrap64 (v - 1)), .int .i64 20] (by rfl) rfl rfl (by (try simp only [List.map_toArray, List.map_cons, List.map_nil]); first | done | rfl) ?_
   refine (mod_n _ 20 (by omega) (by omega) _).mono ?_
   rintro e w' ⟨rfl, ⟨nd, rfl⟩⟩
   refine ⟨_, rfl, ?_⟩
   refine hK.out _ _ (HS.out _ (pw_below_drewN (below_drew (Below.refl _ _)) _)) (fun hHeld => ?_)
   clear hK K
   refine norm_ (a' := ?_) ?_ ?_
   rotate_left
   ·show Act.put _ (some 65) _ = _
    simp only [Act.put, List.setIfInBounds_toArray, List.set_cons_zero, List.set_cons_succ, i64_w, i32_w]
    rfl
   refine pure_ (i := 10) (N := (some 66)) (v := ?_) (a' := ?_) #[true, true, true, true, true, true, true, true, true, true, true, false, false] rfl rfl (by kernel_rfl) (fun _ _ _ h => h) (Or.inl ⟨by rfl, ?_⟩) ?_ ?_
   rotate_left
   ·intro w'
    go_simp
    with_reducible rfl
   rotate_left
   ·simp only [Act.put, List.setIfInBounds_toArray, List.set_cons_zero, List.set_cons_succ, i64_w, i32_w]
    rfl
   refine pure_ (i := 11) (N := (some 67)) (v := ?_) (a' := ?_) #[true, true, true, true, true, true, true, true, true, true, true, true, false] rfl rfl (by kernel_rfl) (fun _ _ _ h => h) (Or.inl ⟨by rfl, ?_⟩) ?_ ?_
   rotate_left
   ·intro w'
    go_simp
    with_reducible rfl
   rotate_left
   ·simp only [Act.put, List.setIfInBounds_toArray, List.set_cons_zero, List.set_cons_succ, i64_w, i32_w]
    rfl
   refine last_ (i := 12) (N := none) #[true, true, true, true, true, true, true, true, true, true, true, true, true] rfl rfl (by kernel_rfl) (by decide) (fun K hK => ?_)
   have HNX2 := Aside0.mk (HNX.out _ (pw_below_drewN (Below.refl wr.heap.size wr) (1 + nd)))
   obtain ⟨hcw, hfw⟩ := HCF.out
   refine skip_ (w1 := ?_) (by rfl) rfl ?_ ?_
   rotate_left
   ·go_simp
    rfl
   refine hK.out _ _ ?_
   clear hK K
   clear hcw hfw
   refine done_ (by kernel_rfl) ?_
   clear HS HNX hv
   go_wp2
   go_roundg (k1 - 1)
   case measure => have := HKI.out; omega
   case rel => exact ⟨i + 1, by go_num, ⟨by have := HKI.out; omega⟩, HNX2⟩
  --A)
  ·obtain rfl : i = nt := by have := HKI.out; omega
   have hfe := mapTo_end capX tc
   rw [← HNT.out, ← HCC.out] at hfe
   have hdi := HDI.out
   rw [hfe] at hdi
   have hccl : cc.length = i := by rw [HCL.out, ← HNT.out]
   have HCCL := Aside0.mk hccl
   have HL1 := Aside0.mk (show M8At w B0 d0 ta B1 d1 tb B2 d2 cc g (w.heap.size + 1) x y wr from ⟨by rw [← hccl] at hdi; exact hdi.case HUB.out HG.out, blk_below HDX.out hdi.bl⟩)
   clear hfe hdi HDI HUB HG HNT HCL HCC hi HKI hccl HDX
   have hn0 : (0 : Int) ≤ (ta.length : Int) := by omega
   have HB1 := Aside0.mk HL1.out.l.bl
   go_upto_region 8 with ((with_reducible refine gate_dst (N := 69) rfl ?_); refine Kd.R_make (Kd.int .i64) _ 3 rfl (N := 69) rfl 22 _ _ rfl (ta.length : Int) rfl rfl Tryd.underlying22 (.int .i64 0) 8 info3w rfl (by decide) (by omega) 0 (ok := fun _ => True) (okp := fun _ => True) rfl (fun _ hk => hk) trivial hn0 (by simp only [Int.toNat_natCast]; omega) (Below.refl _ _) (Nat.le_refl _) ?_; intro v57 w3 ho hb hg_ hnew_; simp only [Int.toNat_natCast] at ho; have HO3 := Aside0.mk ho; have HB3 := Aside0.mk hb; clear ho hb hg_ hnew_)
   clear z0 z1 z2
   obtain ⟨wo, rfl⟩ : ∃ wo : World, wo = wr := ⟨_, rfl⟩
   obtain ⟨rg, rn, rfl, hgb, hgl, cells, hgc⟩ := Kd.R_form HO3.out (by simp; omega)
   have hln : (List.replicate ta.length (0 : Int)).length = ta.length := List.length_replicate ..
   rw [hln] at HO3 ⊢
   clear hln hgc cells hgl
   go_wp2
   go_loopg [11] ta.length (fun kq v11 w' => ∃ i : Nat, v11 = .int .i64 i ∧ Aside0 (kq + i = ta.length) ∧ Aside0 (Below wo.heap.size wo w') ∧ Aside0 (Kd.R (Kd.int .i64) 3 w' wo.heap.size (fun _ => True) (.slice (some ⟨rg, 0, none⟩) ta.length rn) (rowFill (fun i => modN (atN s i) 2) ta.length i)))
   case atStart => exact ⟨0, rfl, ⟨by omega⟩, HB3, HO3⟩
   case round =>
    obtain ⟨i2, rfl, HKI, HBI, HRI⟩ := hrel
    obtain ⟨k3, rfl⟩ : ∃ k3, k3 = gk := ⟨_, rfl⟩
    have HBW := Aside0.mk (below_step HB1.out HBI.out)
    by_cases hi : i2 < ta.length
    --B(
    ·have hrl := rowFill_len (fun i => modN (atN s i) 2) (Nat.le_of_lt hi)
     have hR := HRI.out
     rw [show (Value.slice (some ⟨rg, 0, none⟩) ta.length rn) = .slice (some ⟨rg, 0, none⟩) (rowFill (fun i => modN (atN s i) 2) ta.length i2).length rn from by rw [hrl]] at hR
     obtain ⟨hcw, hfw⟩ := Kd.R_cell (enc := Value.int .i64) (h1 := fun _ => rfl) (0 : Int) hR (i2 : Int) (by omega) (by rw [hrl]; omega)
     obtain ⟨x0, hx0⟩ : ∃ x0, rdOf (0 : Int) (rowFill (fun i => modN (atN s i) 2) ta.length i2) (i2 : Int) = x0 := ⟨_, rfl⟩
     rw [hx0] at hcw
     simp only [Int.toNat_natCast] at hcw hfw
     clear hR hrl hx0
     go_wp2_with (first | (go_at_call 35; refine (at_n AS cs s i2 _ (Kd.C_below HSL.out.2 HBW.out) HSL.out.1).mono ?_; rintro e w' ⟨rfl, ⟨nd1, rfl⟩⟩) | (go_at_call 34; refine (mod_n _ 2 (by omega) (by omega) _).mono ?_; rintro e w' ⟨rfl, ⟨nd2, rfl⟩⟩))
     clear hcw hfw
     go_roundg (k3 - 1)
     case measure => have := HKI.out; omega
     case rel => exact ⟨i2 + 1, by go_num, ⟨by have := HKI.out; omega⟩, ⟨(pw_below_drewN HBI.out (nd1 + nd2)).setCell (show wo.heap.size ≤ (⟨rg, i2, none⟩ : Addr).block from hgb) _⟩, ⟨row_put (Kd.R_drewN HRI.out (nd1 + nd2)) hi⟩⟩
    --B)
    ·obtain rfl : i2 = ta.length := by have := HKI.out; omega
     have HRW := Aside0.mk (show Kd.R (Kd.int .i64) 3 wr wo.heap.size (fun _ => True) (.slice (some ⟨rg, 0, none⟩) (tameRow ta.length s).length rn) (tameRow ta.length s) by
      have e := HRI.out
      rw [rowFill_end] at e
      have el : (tameRow ta.length s).length = ta.length := by unfold tameRow; simp
      rw [el]; exact e)
     have HL2 := Aside0.mk (HL1.out.below HBI.out)
     clear HRI HKI hi
     obtain ⟨row, hrow⟩ : ∃ row, row = tameRow ta.length s := ⟨_, rfl⟩
     have hrl : row.length = ta.length := by rw [hrow]; unfold tameRow; simp
     rw [← hrow] at HRW
     have HROK := Aside0.mk (show rowOkB ta.length row = true by rw [hrow]; exact tameRow_ok _ _)
     clear hrow
     go_upto_region 12 with (fail)
     have hs5 := fun (w' : World) (hb : Below wr.heap.size wr w') => (HL2.out.below hb).cells
     have HS := Aside0.mk hs5
     clear hs5
     refine start_ (n := 10) (S := fun w' => w'.cell? ⟨g, 0, none⟩ = some (.slice B0 ta.length d0) ∧ w'.cell? ⟨g, 1, none⟩ = some (.slice B1 tb.length d1) ∧ w'.cell? ⟨g, 2, none⟩ = some (.slice B2 cc.length d2) ∧ w'.cell? ⟨w.heap.size + 1, 0, none⟩ = some (.int .i64 x) ∧ w'.cell? ⟨w.heap.size + 1, 1, none⟩ = some (.int .i64 y)) (ds := [9]) #[false, false, false, false, false, false, false, false, false, false] (by kernel_rfl) rfl rfl (HS.out _ (below_drew (Below.refl _ _))) (fun hHeld => ?_)
     refine take_ (i := 0) (N := (some 82)) (v := ?_) (a' := ?_) #[true, false, false, false, false, false, false, false, false, false] rfl rfl (by kernel_rfl) (fun _ _ _ h => h) (Or.inl ⟨by rfl, ?_⟩) hHeld ?_ ?_
     rotate_left
     ·rintro w' ⟨s0, s1, s2, s3, s4⟩
      go_simp
      with_reducible rfl
     rotate_left
     ·simp only [Act.put, List.setIfInBounds_toArray, List.set_cons_zero, List.set_cons_succ, i64_w, i32_w]
      rfl
     refine pure_ (i := 2) (N := (some 84)) (v := ?_) (a' := ?_) #[true, false, true, false, false, false, false, false, false, false] rfl rfl (by kernel_rfl) (fun _ _ _ h => h) (Or.inl ⟨by rfl, ?_⟩) ?_ ?_
     rotate_left
     ·intro w'
      go_simp
      with_reducible rfl
     rotate_left
     ·simp only [Act.put, List.setIfInBounds_toArray, List.set_cons_zero, List.set_cons_succ, i64_w, i32_w]
      rfl
     refine pure_ (i := 3) (N := (some 85)) (v := ?_) (a' := ?_) #[true, false, true, true, false, false, false, false, false, false] rfl rfl (by kernel_rfl) (fun _ _ _ h => h) (Or.inl ⟨by rfl, ?_⟩) ?_ ?_
     rotate_left
     ·intro w'
      go_simp
      with_reducible rfl
     rotate_left
     ·simp only [Act.put, List.setIfInBounds_toArray, List.set_cons_zero, List.set_cons_succ, i64_w, i32_w]
      rfl
     refine take_ (i := 4) (N := (some 86)) (v := ?_) (a' := ?_) #[true, false, true, true, true, false, false, false, false, false] rfl rfl (by kernel_rfl) (fun _ _ _ h => h) (Or.inl ⟨by rfl, ?_⟩) hHeld ?_ ?_
     rotate_left
     ·rintro w' ⟨s0, s1, s2, s3, s4⟩
      go_simp
      with_reducible rfl
     rotate_left
     ·simp only [Act.put, List.setIfInBounds_toArray, List.set_cons_zero, List.set_cons_succ, i64_w, i32_w]
      rfl
     have HBC := Aside0.mk (show Below wr.heap.size wr wr.drew from below_drew (Below.refl _ _))
     have HTL := Aside0.mk (show tb.length ≤ 1000 ∧ cc.length ≤ 1000 from ⟨by omega, by rw [HCCL.out]; omega⟩)
     refine join_ (σ := Value × Value × Nat) 1 #[true, true, true, true, true, true, true, true, true, false] (fun s_ => [(83, s_.1), (87, .int .i64 (modN x 20)), (88, .int .i64 (wrap64 (1 + modN x 20))), (89, s_.2.1), (12, .pointer (some ⟨s_.2.2, 0, none⟩))]) (fun s_ w' => ∃ E0 e0 F1 f1 F2 f2, s_.2.1 = .agg #[.slice E0 ta.length e0, .slice F1 (tb ++ [row]).length f1, .slice F2 (cc ++ [(wrap64 (1 + modN x 20))]).length f2] ∧ WcF wo.heap.size E0 e0 ta F1 f1 (tb ++ [row]) F2 f2 (cc ++ [(wrap64 (1 + modN x 20))]) w' ∧ w'.heap[s_.2.2]? = some (.cells #[.slice none 0 0, .slice none 0 0, .slice none 0 0] 25 (0, 0)) ∧ Below wo.heap.size wo w' ∧ wo.heap.size ≤ s_.2.2) ?_ ?_
     rotate_left
     ·intro hCont
      refine two_ (i := 1) (j := 8) (Ni := (some 83)) (Nj := (some 12)) #[true, true, true, true, true, false, false, false, false, false] #[true, false, true, true, true, false, false, false, true, false] rfl rfl rfl rfl (by kernel_rfl) (by decide) (by decide) (fun K hK => ?_) (fun K hK => ?_)
      ·skip
       refine goes_ Tryd.func13 (by kernel_rfl) rfl #[.agg #[.slice B0 ta.length d0, .slice B1 tb.length d1, .slice B2 cc.length d2]] (by rfl) rfl rfl (by (try simp only [List.map_toArray, List.map_cons, List.map_nil]); first | done | rfl) ?_
       refine (own_f (HL2.out.below HBC.out).l.cs HD.out.is HBC.out).mono ?_
       rintro e w6 ⟨E0, e0, E1, e1, E2, e2, rfl, ho, hb⟩
       have HOF := Aside0.mk ho
       clear ho hb
       refine ⟨_, rfl, ?_⟩
       refine hK.out _ _ (HS.out _ HOF.out.bl) (fun hHeld => ?_)
       clear hK K
       refine norm_ (a' := ?_) ?_ ?_
       rotate_left
       ·show Act.put _ (some 83) _ = _
        simp only [Act.put, List.setIfInBounds_toArray, List.set_cons_zero, List.set_cons_succ, i64_w, i32_w]
        rfl
       refine two_ (i := 5) (j := 8) (Ni := (some 87)) (Nj := (some 12)) #[true, true, true, true, true, true, false, false, false, false] #[true, true, true, true, true, false, false, false, true, false] rfl rfl rfl rfl (by kernel_rfl) (by decide) (by decide) (fun K hK => ?_) (fun K hK => ?_)
       ·skip
        refine goes_ Tryd.func34 (by kernel_rfl) rfl #[.int .i64 x, .int .i64 20] (by rfl) rfl rfl (by (try simp only [List.map_toArray, List.map_cons, List.map_nil]); first | done | rfl) ?_
        refine (mod_n x 20 (by omega) (by omega) _).mono ?_
        rintro e w' ⟨rfl, ⟨nd, rfl⟩⟩
        refine ⟨_, rfl, ?_⟩
        have HOM := Aside0.mk (HOF.out.below (pw_below_drewN (Below.refl _ _) nd))
        refine hK.out _ _ (HS.out _ HOM.out.bl) (fun hHeld => ?_)
        clear hK K
        refine norm_ (a' := ?_) ?_ ?_
        rotate_left
        ·show Act.put _ (some 87) _ = _
         simp only [Act.put, List.setIfInBounds_toArray, List.set_cons_zero, List.set_cons_succ, i64_w, i32_w]
         rfl
        refine pure_ (i := 6) (N := (some 88)) (v := ?_) (a' := ?_) #[true, true, true, true, true, true, true, false, false, false] rfl rfl (by kernel_rfl) (fun _ _ _ h => h) (Or.inl ⟨by rfl, ?_⟩) ?_ ?_
        rotate_left
        ·intro w'
         go_simp
         with_reducible rfl
        rotate_left
        ·simp only [Act.put, List.setIfInBounds_toArray, List.set_cons_zero, List.set_cons_succ, i64_w, i32_w]
         rfl
        refine two_ (i := 7) (j := 8) (Ni := (some 89)) (Nj := (some 12)) #[true, true, true, true, true, true, true, true, false, false] #[true, true, true, true, true, true, true, false, true, false] rfl rfl rfl rfl (by kernel_rfl) (by decide) (by decide) (fun K hK => ?_) (fun K hK => ?_)
        ·skip
         refine goes_ Tryd.func36 (by kernel_rfl) rfl #[.agg #[.slice E0 ta.length e0, .slice E1 tb.length e1, .slice E2 cc.length e2], .slice (some ⟨rg, 0, none⟩) ta.length rn, .int .i64 (wrap64 (1 + modN x 20))] (by rfl) rfl rfl (by (try simp only [List.map_toArray, List.map_cons, List.map_nil]); first | done | rfl) ?_
         have hwf := with_f (x := (wrap64 (1 + modN x 20))) HOM.out HRW.out HBI.out.size HTL.out.1 HTL.out.2
         rw [hrl] at hwf
         refine hwf.mono ?_
         clear hwf
         rintro e w7 ⟨F1, f1, F2, f2, rfl, hc7, hb7, hk7⟩
         have HC7 := Aside0.mk hc7
         have HB7 := Aside0.mk (show Below wo.heap.size wo w7 from (below_step HBI.out HOM.out.bl).trans hb7)
         clear hc7 hb7 hk7
         refine ⟨_, rfl, ?_⟩
         refine hK.out _ _ ((HL1.out.below HB7.out).cells) (fun hHeld => ?_)
         clear hK K
         refine norm_ (a' := ?_) ?_ ?_
         rotate_left
         ·show Act.put _ (some 89) _ = _
          simp only [Act.put, List.setIfInBounds_toArray, List.set_cons_zero, List.set_cons_succ, i64_w, i32_w]
          rfl
         refine one_ (i := 8) (N := (some 12)) #[true, true, true, true, true, true, true, true, true, false] rfl rfl (by kernel_rfl) (by decide) (fun K hK => ?_)
         refine box_step ?hg (N := 12) ?hd (cs := #[.slice none 0 0, .slice none 0 0, .slice none 0 0]) (t := 25) ?hr ?_; (case hd => rfl); (case hg => rfl); (case hr => first | (go_simp; done) | (go_simp; rfl))
         intro gA hg w8 hbox hb
         have HGA := Aside0.mk (show wo.heap.size ≤ gA by rw [hg]; exact HB7.out.size)
         have HC72 := Aside0.mk (HC7.out.below hb)
         have HB72 := Aside0.mk (below_step HB7.out hb)
         have HBX7 := Aside0.mk hbox
         clear HC7 HB7
         have HC7 := HC72
         have HB7 := HB72
         clear HC72 HB72
         clear hbox hb hg
         refine hK.out _ _ ((HL1.out.below HB7.out).cells) (fun hHeld => ?_)
         clear hK K
         refine norm_ (a' := ?_) ?_ ?_
         rotate_left
         ·show Act.put _ (some 12) _ = _
          simp only [Act.put, List.setIfInBounds_toArray, List.set_cons_zero, List.set_cons_succ, i64_w, i32_w]
          rfl
         exact norm_ (by simp only [putAll, Act.put, List.setIfInBounds_toArray, List.set_cons_zero, List.set_cons_succ]) (hCont (.agg #[.slice E0 ta.length e0, .slice E1 tb.length e1, .slice E2 cc.length e2], .agg #[.slice E0 ta.length e0, .slice F1 (tb ++ [row]).length f1, .slice F2 (cc ++ [(wrap64 (1 + modN x 20))]).length f2], gA) _ ⟨E0, e0, F1, f1, F2, f2, rfl, HC7.out, HBX7.out, HB7.out, HGA.out⟩)
        ·skip
         refine box_step ?hg (N := 12) ?hd (cs := #[.slice none 0 0, .slice none 0 0, .slice none 0 0]) (t := 25) ?hr ?_; (case hd => rfl); (case hg => rfl); (case hr => first | (go_simp; done) | (go_simp; rfl))
         intro gA hg w8 hbox hb
         have HGA := Aside0.mk (show wo.heap.size ≤ gA by rw [hg]; exact Nat.le_trans HBI.out.size HOM.out.bl.size)
         have HOM2 := Aside0.mk (HOM.out.below hb)
         have HBXM := Aside0.mk hbox
         clear HOM
         have HOM := HOM2
         clear HOM2
         clear hbox hb hg
         refine hK.out _ _ (HS.out _ HOM.out.bl) (fun hHeld => ?_)
         clear hK K
         refine norm_ (a' := ?_) ?_ ?_
         rotate_left
         ·show Act.put _ (some 12) _ = _
          simp only [Act.put, List.setIfInBounds_toArray, List.set_cons_zero, List.set_cons_succ, i64_w, i32_w]
          rfl
         refine one_ (i := 7) (N := (some 89)) #[true, true, true, true, true, true, true, true, true, false] rfl rfl (by kernel_rfl) (by decide) (fun K hK => ?_)
         refine goes_ Tryd.func36 (by kernel_rfl) rfl #[.agg #[.slice E0 ta.length e0, .slice E1 tb.length e1, .slice E2 cc.length e2], .slice (some ⟨rg, 0, none⟩) ta.length rn, .int .i64 (wrap64 (1 + modN x 20))] (by rfl) rfl rfl (by (try simp only [List.map_toArray, List.map_cons, List.map_nil]); first | done | rfl) ?_
         have hwf := with_f (x := (wrap64 (1 + modN x 20))) HOM.out HRW.out HBI.out.size HTL.out.1 HTL.out.2
         rw [hrl] at hwf
         refine hwf.mono ?_
         clear hwf
         rintro e w7 ⟨F1, f1, F2, f2, rfl, hc7, hb7, hk7⟩
         have HC7 := Aside0.mk hc7
         have HB7 := Aside0.mk (show Below wo.heap.size wo w7 from (below_step HBI.out HOM.out.bl).trans hb7)
         have HBX7 := Aside0.mk (hk7 _ _ HBXM.out)
         clear hc7 hb7 hk7
         refine ⟨_, rfl, ?_⟩
         refine hK.out _ _ ((HL1.out.below HB7.out).cells) (fun hHeld => ?_)
         clear hK K
         refine norm_ (a' := ?_) ?_ ?_
         rotate_left
         ·show Act.put _ (some 89) _ = _
          simp only [Act.put, List.setIfInBounds_toArray, List.set_cons_zero, List.set_cons_succ, i64_w, i32_w]
          rfl
         exact norm_ (by simp only [putAll, Act.put, List.setIfInBounds_toArray, List.set_cons_zero, List.set_cons_succ]) (hCont (.agg #[.slice E0 ta.length e0, .slice E1 tb.length e1, .slice E2 cc.length e2], .agg #[.slice E0 ta.length e0, .slice F1 (tb ++ [row]).length f1, .slice F2 (cc ++ [(wrap64 (1 + modN x 20))]).length f2], gA) _ ⟨E0, e0, F1, f1, F2, f2, rfl, HC7.out, HBX7.out, HB7.out, HGA.out⟩)
       ·skip
        refine box_step ?hg (N := 12) ?hd (cs := #[.slice none 0 0, .slice none 0 0, .slice none 0 0]) (t := 25) ?hr ?_; (case hd => rfl); (case hg => rfl); (case hr => first | (go_simp; done) | (go_simp; rfl))
        intro gA hg w8 hbox hb
        have HGA := Aside0.mk (show wo.heap.size ≤ gA by rw [hg]; exact Nat.le_trans HBI.out.size HOF.out.bl.size)
        have HOF2 := Aside0.mk (HOF.out.below hb)
        have HBX6 := Aside0.mk hbox
        clear HOF
        have HOF := HOF2
        clear HOF2
        clear hbox hb hg
        refine hK.out _ _ (HS.out _ HOF.out.bl) (fun hHeld => ?_)
        clear hK K
        refine norm_ (a' := ?_) ?_ ?_
        rotate_left
        ·show Act.put _ (some 12) _ = _
         simp only [Act.put, List.setIfInBounds_toArray, List.set_cons_zero, List.set_cons_succ, i64_w, i32_w]
         rfl
        refine one_ (i := 5) (N := (some 87)) #[true, true, true, true, true, true, false, false, true, false] rfl rfl (by kernel_rfl) (by decide) (fun K hK => ?_)
        refine goes_ Tryd.func34 (by kernel_rfl) rfl #[.int .i64 x, .int .i64 20] (by rfl) rfl rfl (by (try simp only [List.map_toArray, List.map_cons, List.map_nil]); first | done | rfl) ?_
        refine (mod_n x 20 (by omega) (by omega) _).mono ?_
        rintro e w' ⟨rfl, ⟨nd, rfl⟩⟩
        refine ⟨_, rfl, ?_⟩
        have HOM := Aside0.mk (HOF.out.below (pw_below_drewN (Below.refl _ _) nd))
        have HBXM := Aside0.mk (blk_drewN HBX6.out nd)
        refine hK.out _ _ (HS.out _ HOM.out.bl) (fun hHeld => ?_)
        clear hK K
        refine norm_ (a' := ?_) ?_ ?_
        rotate_left
        ·show Act.put _ (some 87) _ = _
         simp only [Act.put, List.setIfInBounds_toArray, List.set_cons_zero, List.set_cons_succ, i64_w, i32_w]
         rfl
        refine pure_ (i := 6) (N := (some 88)) (v := ?_) (a' := ?_) #[true, true, true, true, true, true, true, false, true, false] rfl rfl (by kernel_rfl) (fun _ _ _ h => h) (Or.inl ⟨by rfl, ?_⟩) ?_ ?_
        rotate_left
        ·intro w'
         go_simp
         with_reducible rfl
        rotate_left
        ·simp only [Act.put, List.setIfInBounds_toArray, List.set_cons_zero, List.set_cons_succ, i64_w, i32_w]
         rfl
        refine one_ (i := 7) (N := (some 89)) #[true, true, true, true, true, true, true, true, true, false] rfl rfl (by kernel_rfl) (by decide) (fun K hK => ?_)
        refine goes_ Tryd.func36 (by kernel_rfl) rfl #[.agg #[.slice E0 ta.length e0, .slice E1 tb.length e1, .slice E2 cc.length e2], .slice (some ⟨rg, 0, none⟩) ta.length rn, .int .i64 (wrap64 (1 + modN x 20))] (by rfl) rfl rfl (by (try simp only [List.map_toArray, List.map_cons, List.map_nil]); first | done | rfl) ?_
        have hwf := with_f (x := (wrap64 (1 + modN x 20))) HOM.out HRW.out HBI.out.size HTL.out.1 HTL.out.2
        rw [hrl] at hwf
        refine hwf.mono ?_
        clear hwf
        rintro e w7 ⟨F1, f1, F2, f2, rfl, hc7, hb7, hk7⟩
        have HC7 := Aside0.mk hc7
        have HB7 := Aside0.mk (show Below wo.heap.size wo w7 from (below_step HBI.out HOM.out.bl).trans hb7)
        have HBX7 := Aside0.mk (hk7 _ _ HBXM.out)
        clear hc7 hb7 hk7
        refine ⟨_, rfl, ?_⟩
        refine hK.out _ _ ((HL1.out.below HB7.out).cells) (fun hHeld => ?_)
        clear hK K
        refine norm_ (a' := ?_) ?_ ?_
        rotate_left
        ·show Act.put _ (some 89) _ = _
         simp only [Act.put, List.setIfInBounds_toArray, List.set_cons_zero, List.set_cons_succ, i64_w, i32_w]
         rfl
        exact norm_ (by simp only [putAll, Act.put, List.setIfInBounds_toArray, List.set_cons_zero, List.set_cons_succ]) (hCont (.agg #[.slice E0 ta.length e0, .slice E1 tb.length e1, .slice E2 cc.length e2], .agg #[.slice E0 ta.length e0, .slice F1 (tb ++ [row]).length f1, .slice F2 (cc ++ [(wrap64 (1 + modN x 20))]).length f2], gA) _ ⟨E0, e0, F1, f1, F2, f2, rfl, HC7.out, HBX7.out, HB7.out, HGA.out⟩)
      ·skip
       refine box_step ?hg (N := 12) ?hd (cs := #[.slice none 0 0, .slice none 0 0, .slice none 0 0]) (t := 25) ?hr ?_; (case hd => rfl); (case hg => rfl); (case hr => first | (go_simp; done) | (go_simp; rfl))
       intro gA hg w8 hbox hb
       have HGA := Aside0.mk (show wo.heap.size ≤ gA by rw [hg]; exact Nat.le_trans HBI.out.size HBC.out.size)
       have HBC2 := Aside0.mk (below_step HBC.out hb)
       have HBX := Aside0.mk hbox
       clear HBC
       have HBC := HBC2
       clear HBC2
       clear hbox hb hg
       refine hK.out _ _ (HS.out _ HBC.out) (fun hHeld => ?_)
       clear hK K
       refine norm_ (a' := ?_) ?_ ?_
       rotate_left
       ·show Act.put _ (some 12) _ = _
        simp only [Act.put, List.setIfInBounds_toArray, List.set_cons_zero, List.set_cons_succ, i64_w, i32_w]
        rfl
       refine one_ (i := 1) (N := (some 83)) #[true, true, true, true, true, false, false, false, true, false] rfl rfl (by kernel_rfl) (by decide) (fun K hK => ?_)
       refine goes_ Tryd.func13 (by kernel_rfl) rfl #[.agg #[.slice B0 ta.length d0, .slice B1 tb.length d1, .slice B2 cc.length d2]] (by rfl) rfl rfl (by (try simp only [List.map_toArray, List.map_cons, List.map_nil]); first | done | rfl) ?_
       refine (own_f (HL2.out.below HBC.out).l.cs HD.out.is HBC.out).mono ?_
       rintro e w6 ⟨E0, e0, E1, e1, E2, e2, rfl, ho, hb⟩
       have HOF := Aside0.mk ho
       have HBX6 := Aside0.mk (blk_below HBX.out hb)
       clear ho hb
       refine ⟨_, rfl, ?_⟩
       refine hK.out _ _ (HS.out _ HOF.out.bl) (fun hHeld => ?_)
       clear hK K
       refine norm_ (a' := ?_) ?_ ?_
       rotate_left
       ·show Act.put _ (some 83) _ = _
        simp only [Act.put, List.setIfInBounds_toArray, List.set_cons_zero, List.set_cons_succ, i64_w, i32_w]
        rfl
       refine one_ (i := 5) (N := (some 87)) #[true, true, true, true, true, true, false, false, true, false] rfl rfl (by kernel_rfl) (by decide) (fun K hK => ?_)
       refine goes_ Tryd.func34 (by kernel_rfl) rfl #[.int .i64 x, .int .i64 20] (by rfl) rfl rfl (by (try simp only [List.map_toArray, List.map_cons, List.map_nil]); first | done | rfl) ?_
       refine (mod_n x 20 (by omega) (by omega) _).mono ?_
       rintro e w' ⟨rfl, ⟨nd, rfl⟩⟩
       refine ⟨_, rfl, ?_⟩
       have HOM := Aside0.mk (HOF.out.below (pw_below_drewN (Below.refl _ _) nd))
       have HBXM := Aside0.mk (blk_drewN HBX6.out nd)
       refine hK.out _ _ (HS.out _ HOM.out.bl) (fun hHeld => ?_)
       clear hK K
       refine norm_ (a' := ?_) ?_ ?_
       rotate_left
       ·show Act.put _ (some 87) _ = _
        simp only [Act.put, List.setIfInBounds_toArray, List.set_cons_zero, List.set_cons_succ, i64_w, i32_w]
        rfl
       refine pure_ (i := 6) (N := (some 88)) (v := ?_) (a' := ?_) #[true, true, true, true, true, true, true, false, true, false] rfl rfl (by kernel_rfl) (fun _ _ _ h => h) (Or.inl ⟨by rfl, ?_⟩) ?_ ?_
       rotate_left
       ·intro w'
        go_simp
        with_reducible rfl
       rotate_left
       ·simp only [Act.put, List.setIfInBounds_toArray, List.set_cons_zero, List.set_cons_succ, i64_w, i32_w]
        rfl
       refine one_ (i := 7) (N := (some 89)) #[true, true, true, true, true, true, true, true, true, false] rfl rfl (by kernel_rfl) (by decide) (fun K hK => ?_)
       refine goes_ Tryd.func36 (by kernel_rfl) rfl #[.agg #[.slice E0 ta.length e0, .slice E1 tb.length e1, .slice E2 cc.length e2], .slice (some ⟨rg, 0, none⟩) ta.length rn, .int .i64 (wrap64 (1 + modN x 20))] (by rfl) rfl rfl (by (try simp only [List.map_toArray, List.map_cons, List.map_nil]); first | done | rfl) ?_
       have hwf := with_f (x := (wrap64 (1 + modN x 20))) HOM.out HRW.out HBI.out.size HTL.out.1 HTL.out.2
       rw [hrl] at hwf
       refine hwf.mono ?_
       clear hwf
       rintro e w7 ⟨F1, f1, F2, f2, rfl, hc7, hb7, hk7⟩
       have HC7 := Aside0.mk hc7
       have HB7 := Aside0.mk (show Below wo.heap.size wo w7 from (below_step HBI.out HOM.out.bl).trans hb7)
       have HBX7 := Aside0.mk (hk7 _ _ HBXM.out)
       clear hc7 hb7 hk7
       refine ⟨_, rfl, ?_⟩
       refine hK.out _ _ ((HL1.out.below HB7.out).cells) (fun hHeld => ?_)
       clear hK K
       refine norm_ (a' := ?_) ?_ ?_
       rotate_left
       ·show Act.put _ (some 89) _ = _
        simp only [Act.put, List.setIfInBounds_toArray, List.set_cons_zero, List.set_cons_succ, i64_w, i32_w]
        rfl
       exact norm_ (by simp only [putAll, Act.put, List.setIfInBounds_toArray, List.set_cons_zero, List.set_cons_succ]) (hCont (.agg #[.slice E0 ta.length e0, .slice E1 tb.length e1, .slice E2 cc.length e2], .agg #[.slice E0 ta.length e0, .slice F1 (tb ++ [row]).length f1, .slice F2 (cc ++ [(wrap64 (1 + modN x 20))]).length f2], gA) _ ⟨E0, e0, F1, f1, F2, f2, rfl, HC7.out, HBX7.out, HB7.out, HGA.out⟩)
     rintro ⟨vO, vW, gA⟩ wJ ⟨E0, e0, F1, f1, F2, f2, hv, hc, hx, hb, hg⟩
     dsimp only at hv hx hg ⊢
     subst hv
     have HCJ := Aside0.mk hc
     have HXJ := Aside0.mk hx
     have HBJ := Aside0.mk hb
     have HGJ := Aside0.mk hg
     clear hc hx hb hg HBC
     refine norm_ (a' := ?_) ?_ ?_
     rotate_left
     ·simp only [putAll, Act.put, List.setIfInBounds_toArray, List.set_cons_zero, List.set_cons_succ]
      rfl
     refine last_ (i := 9) (N := none) #[true, true, true, true, true, true, true, true, true, true] rfl rfl (by kernel_rfl) (by decide) (fun K hK => ?_)
     have hs0 : wJ.cell? ⟨gA, 0, none⟩ = some (.slice none 0 0) := (boxS7 HXJ.out).1
     have hs1 : wJ.cell? ⟨gA, 1, none⟩ = some (.slice none 0 0) := (boxS7 HXJ.out).2.1
     have hs2 : wJ.cell? ⟨gA, 2, none⟩ = some (.slice none 0 0) := (boxS7 HXJ.out).2.2
     have hf0 := blk_frozen HXJ.out 0
     have hf1 := blk_frozen HXJ.out 1
     have hf2 := blk_frozen HXJ.out 2
     refine skip_ (w1 := ?_) (by rfl) rfl ?_ ?_
     rotate_left
     ·go_simp
      rfl
     refine hK.out _ _ ?_
     clear hK K
     clear hs0 hs1 hs2 hf0 hf1 hf2
     refine done_ (by kernel_rfl) ?_
     have el1 : (tb ++ [row]).length = tb.length + 1 := by simp
     have el2 : (cc ++ [wrap64 (1 + modN x 20)]).length = cc.length + 1 := by simp
     have hst := HCJ.out.store (w := w) HXJ.out (below_step HB1.out HBJ.out) (Nat.le_trans HB1.out.size HGJ.out)
     rw [el1, el2] at hst
     have HLW0 := Aside0.mk hst
     clear hst el1 el2
     have HM80 := Aside0.mk (HL1.out.below (show Below wo.heap.size wo (((wJ.setCell ⟨gA, 0, none⟩ (.slice E0 ta.length e0)).setCell ⟨gA, 1, none⟩ (.slice F1 (tb.length + 1) f1)).setCell ⟨gA, 2, none⟩ (.slice F2 (cc.length + 1) f2)) from ((HBJ.out.setCell HGJ.out _).setCell HGJ.out _).setCell HGJ.out _))
     generalize (((wJ.setCell ⟨gA, 0, none⟩ (.slice E0 ta.length e0)).setCell ⟨gA, 1, none⟩ (.slice F1 (tb.length + 1) f1)).setCell ⟨gA, 2, none⟩ (.slice F2 (cc.length + 1) f2)) = W8 at HLW0 HM80 ⊢
     have hx1 : 1 ≤ wrap64 (1 + modN x 20) ∧ wrap64 (1 + modN x 20) ≤ 100 := by
      have h1 := HXB.out
      rw [one_to h1 (by decide)]
      omega
     have HS1 := Aside0.mk (more_sub HD.out (Nat.le_trans htb10 (by decide)) HROK.out hx1)
     clear hx1 HS HCJ HXJ HBJ HGJ HBI HRW HROK HL2 HBW HTL
     obtain ⟨tb2, htb2⟩ : ∃ tb2, tb2 = tb ++ [row] := ⟨_, rfl⟩
     obtain ⟨cc2, hcc2⟩ : ∃ cc2, cc2 = cc ++ [wrap64 (1 + modN x 20)] := ⟨_, rfl⟩
     rw [← htb2, ← hcc2] at HLW0 HS1
     clear htb2 hcc2 hrl
     obtain ⟨z0, z1, z2, z3, z4⟩ := HM80.out.cells
     go_upto_region 14 with (go_at_call 34; refine (mod_n y 5 (by omega) (by omega) _).mono ?_; rintro e w' ⟨rfl, ⟨nd, rfl⟩⟩)
     clear z0 z1 z2 z3 z4
     obtain ⟨k, hk⟩ : ∃ k, k = wrap64 (1 + modN y 5) := ⟨_, rfl⟩
     have HKB := Aside0.mk (show 1 ≤ k ∧ k ≤ 5 by
      have h1 := HYB.out
      rw [hk, one_to h1 (by decide)]
      omega)
     rw [← hk]
     clear hk
     have HM9 := Aside0.mk (HM80.out.below (pw_below_drewN (Below.refl _ _) nd))
     have HLW9 := Aside0.mk (HLW0.out.below (pw_below_drewN (Below.refl _ _) nd))
     generalize W8.drewN nd = W9 at HM9 HLW9 ⊢
     clear HM80 HLW0 W8
     obtain ⟨z0, z1, z2, _, _⟩ := HM9.out.cells
     go_upto_region 15 with (go_at_call 13; refine (own_f (wr := W9) HM9.out.l.cs HD.out.is (Below.refl _ _)).mono ?_; rintro e w10 ⟨G0, g0, G1, g1, G2, g2, rfl, ho, hb⟩; have HOF := Aside0.mk ho; clear ho hb)
     clear z0 z1 z2
     have HCW0 := Aside0.mk (show CwAt W9 G0 g0 ta G1 g1 tb G2 g2 cc.length (mapTo (mulK k) cc 0) w10.heap.size (w10.alloc (.cells #[.slice G0 ta.length g0, .slice G1 tb.length g1, .slice G2 cc.length g2] 25)) from ⟨blk_new _ _, Kd.R_below HOF.out.r0 (below_alloc (Below.refl _ _) _), Kd.R_below HOF.out.r1 (below_alloc (Below.refl _ _) _), by rw [mapTo_zero]; exact Kd.R_below HOF.out.r2 (below_alloc (Below.refl _ _) _), below_alloc HOF.out.bl _⟩)
     have HGT := Aside0.mk (show W9.heap.size ≤ w10.heap.size from HOF.out.bl.size)
     generalize w10.alloc (.cells #[.slice G0 ta.length g0, .slice G1 tb.length g1, .slice G2 cc.length g2] 25) = W11 at HCW0 ⊢
     generalize w10.heap.size = gT at HCW0 HGT ⊢
     clear HOF w10
     have hcc12 : cc.length ≤ 12 := by rw [HCCL.out]; omega
     go_wp2
     go_loopg [15] cc.length (fun kq v15 w' => ∃ i : Nat, v15 = .int .i64 i ∧ Aside0 (kq + i = cc.length) ∧ Aside0 (CwAt W9 G0 g0 ta G1 g1 tb G2 g2 cc.length (mapTo (mulK k) cc i) gT w'))
     case atStart => exact ⟨0, rfl, ⟨by omega⟩, HCW0⟩
     case round =>
      clear HCW0
      obtain ⟨i3, rfl, HKI, HDI⟩ := hrel
      obtain ⟨k4, rfl⟩ : ∃ k4, k4 = gk := ⟨_, rfl⟩
      obtain ⟨z0, z1, z2⟩ := HDI.out.cells
      by_cases hi : i3 < cc.length
      --C(
      ·obtain ⟨v, hv⟩ : ∃ v, cc[i3] = v := ⟨_, rfl⟩
       obtain ⟨q, e2, hcw, hfw, hnx⟩ := HDI.out.put2 i3 hi (mulK k v)
       rw [mapTo_rd (mulK k) hi, hv] at hcw
       rw [← hv, mapTo_set (mulK k) hi, hv] at hnx
       have HNX := Aside0.mk hnx
       subst e2
       have hs1 := fun (w' : World) (hb : Below wr.heap.size wr w') => And.intro ((HDI.out.below hb).cells).2.2 (pw_cell_below hb hcw)
       have HS := Aside0.mk hs1
       have HCF := Aside0.mk (And.intro hcw hfw)
       clear hs1 hnx
       go_upto_region 18 with (fail)
       clear z0 z1 z2 hcw hfw
       have hi0 : (0 : Int) ≤ (i3 : Int) := by omega
       refine start_ (n := 12) (S := fun w' => w'.cell? ⟨gT, 2, none⟩ = some (.slice (some ⟨q, 0, none⟩) cc.length g2) ∧ w'.cell? ⟨q, i3, none⟩ = some (.int .i64 v)) (ds := [11]) #[false, false, false, false, false, false, false, false, false, false, false, false] (by kernel_rfl) rfl rfl (HS.out _ (below_drew (Below.refl _ _))) (fun hHeld => ?_)
       refine pure_ (i := 0) (N := (some 103)) (v := ?_) (a' := ?_) #[true, false, false, false, false, false, false, false, false, false, false, false] rfl rfl (by kernel_rfl) (fun _ _ _ h => h) (Or.inl ⟨by rfl, ?_⟩) ?_ ?_
       rotate_left
       ·intro w'
        go_simp
        with_reducible rfl
       rotate_left
       ·simp only [Act.put, List.setIfInBounds_toArray, List.set_cons_zero, List.set_cons_succ, i64_w, i32_w]
        rfl
       refine take_ (i := 1) (N := (some 104)) (v := ?_) (a' := ?_) #[true, true, false, false, false, false, false, false, false, false, false, false] rfl rfl (by kernel_rfl) (fun _ _ _ h => h) (Or.inl ⟨by rfl, ?_⟩) hHeld ?_ ?_
       rotate_left
       ·rintro w' ⟨s0, s1⟩
        go_simp
        with_reducible rfl
       rotate_left
       ·simp only [Act.put, List.setIfInBounds_toArray, List.set_cons_zero, List.set_cons_succ, i64_w, i32_w]
        rfl
       refine pure_ (i := 2) (N := (some 105)) (v := ?_) (a' := ?_) #[true, true, true, false, false, false, false, false, false, false, false, false] rfl rfl (by kernel_rfl) (fun _ _ _ h => h) (Or.inl ⟨by rfl, ?_⟩) ?_ ?_
       rotate_left
       ·intro w'
        go_simp
        with_reducible rfl
       rotate_left
       ·simp only [Act.put, List.setIfInBounds_toArray, List.set_cons_zero, List.set_cons_succ, i64_w, i32_w]
        rfl
       refine pure_ (i := 3) (N := (some 106)) (v := ?_) (a' := ?_) #[true, true, true, true, false, false, false, false, false, false, false, false] rfl rfl (by kernel_rfl) (fun _ _ _ h => h) (Or.inl ⟨by rfl, ?_⟩) ?_ ?_
       rotate_left
       ·intro w'
        go_simp
        with_reducible rfl
       rotate_left
       ·simp only [Act.put, List.setIfInBounds_toArray, List.set_cons_zero, List.set_cons_succ, i64_w, i32_w]
        rfl
       refine pure_ (i := 4) (N := (some 107)) (v := ?_) (a' := ?_) #[true, true, true, true, true, false, false, false, false, false, false, false] rfl rfl (by kernel_rfl) (fun _ _ _ h => h) (Or.inl ⟨by rfl, ?_⟩) ?_ ?_
       rotate_left
       ·intro w'
        go_simp
        with_reducible rfl
       rotate_left
       ·simp only [Act.put, List.setIfInBounds_toArray, List.set_cons_zero, List.set_cons_succ, i64_w, i32_w]
        rfl
       refine take_ (i := 5) (N := (some 108)) (v := ?_) (a' := ?_) #[true, true, true, true, true, true, false, false, false, false, false, false] rfl rfl (by kernel_rfl) (fun _ _ _ h => h) (Or.inl ⟨by rfl, ?_⟩) hHeld ?_ ?_
       rotate_left
       ·rintro w' ⟨s0, s1⟩
        go_simp
        with_reducible rfl
       rotate_left
       ·simp only [Act.put, List.setIfInBounds_toArray, List.set_cons_zero, List.set_cons_succ, i64_w, i32_w]
        rfl
       refine pure_ (i := 6) (N := (some 109)) (v := ?_) (a' := ?_) #[true, true, true, true, true, true, true, false, false, false, false, false] rfl rfl (by kernel_rfl) (fun _ _ _ h => h) (Or.inl ⟨by rfl, ?_⟩) ?_ ?_
       rotate_left
       ·intro w'
        go_simp
        with_reducible rfl
       rotate_left
       ·simp only [Act.put, List.setIfInBounds_toArray, List.set_cons_zero, List.set_cons_succ, i64_w, i32_w]
        rfl
       refine pure_ (i := 7) (N := (some 110)) (v := ?_) (a' := ?_) #[true, true, true, true, true, true, true, true, false, false, false, false] rfl rfl (by kernel_rfl) (fun _ _ _ h => h) (Or.inl ⟨by rfl, ?_⟩) ?_ ?_
       rotate_left
       ·intro w'
        go_simp
        with_reducible rfl
       rotate_left
       ·simp only [Act.put, List.setIfInBounds_toArray, List.set_cons_zero, List.set_cons_succ, i64_w, i32_w]
        rfl
       refine take_ (i := 8) (N := (some 111)) (v := ?_) (a' := ?_) #[true, true, true, true, true, true, true, true, true, false, false, false] rfl rfl (by kernel_rfl) (fun _ _ _ h => h) (Or.inl ⟨by rfl, ?_⟩) hHeld ?_ ?_
       rotate_left
       ·rintro w' ⟨s0, s1⟩
        go_simp
        with_reducible rfl
       rotate_left
       ·simp only [Act.put, List.setIfInBounds_toArray, List.set_cons_zero, List.set_cons_succ, i64_w, i32_w]
        rfl
       refine pure_ (i := 9) (N := (some 112)) (v := ?_) (a' := ?_) #[true, true, true, true, true, true, true, true, true, true, false, false] rfl rfl (by kernel_rfl) (fun _ _ _ h => h) (Or.inl ⟨by rfl, ?_⟩) ?_ ?_
       rotate_left
       ·intro w'
        go_simp
        with_reducible rfl
       rotate_left
       ·simp only [Act.put, List.setIfInBounds_toArray, List.set_cons_zero, List.set_cons_succ, i64_w, i32_w]
        rfl
       refine pure_ (i := 10) (N := (some 113)) (v := ?_) (a' := ?_) #[true, true, true, true, true, true, true, true, true, true, true, false] rfl rfl (by kernel_rfl) (fun _ _ _ h => h) (Or.inl ⟨by rfl, ?_⟩) ?_ ?_
       rotate_left
       ·intro w'
        go_simp
        with_reducible rfl
       rotate_left
       ·simp only [Act.put, List.setIfInBounds_toArray, List.set_cons_zero, List.set_cons_succ, i64_w, i32_w]
        rfl
       refine last_ (i := 11) (N := none) #[true, true, true, true, true, true, true, true, true, true, true, true] rfl rfl (by kernel_rfl) (by decide) (fun K hK => ?_)
       have HNX2 := Aside0.mk (HNX.out _ (below_drew (Below.refl wr.heap.size wr)))
       obtain ⟨hcw, hfw⟩ := HCF.out
       refine skip_ (w1 := ?_) (by rfl) rfl ?_ ?_
       rotate_left
       ·go_simp
        rfl
       refine hK.out _ _ ?_
       clear hK K
       clear hcw hfw
       refine done_ (by kernel_rfl) ?_
       clear HS hv
       go_wp2
       go_roundg (k4 - 1)
       case measure => have := HKI.out; omega
       case rel => exact ⟨i3 + 1, by go_num, ⟨by have := HKI.out; omega⟩, HNX2⟩
      --C)
      ·obtain rfl : i3 = cc.length := by have := HKI.out; omega
       have hfe : mapTo (mulK k) cc cc.length = cc.map (k * ·) := by
        rw [mapTo_end]; exact List.map_congr_left (fun v hv => (dear_in HKB.out (HCI.out v hv)).2)
       have hS2 := times_sub HD.out HKB.out.1 (fun v hv => (dear_in HKB.out (HCI.out v hv)).1)
       obtain ⟨ck, hck⟩ : ∃ ck, ck = cc.map (k * ·) := ⟨_, rfl⟩
       have hckl : ck.length = cc.length := by rw [hck]; exact List.length_map ..
       rw [← hck] at hfe hS2
       have hdi := HDI.out
       rw [hfe, ← hckl] at hdi
       have HK0 := Aside0.mk (hdi.case HM9.out.l.bl (Nat.le_trans HM9.out.l.bl.size HGT.out))
       have HM10 := Aside0.mk (HM9.out.below hdi.bl)
       have HW10 := Aside0.mk (HLW9.out.below hdi.bl)
       have HDW := Aside0.mk HS1.out.differ
       have HDK := Aside0.mk hS2.differ
       obtain ⟨vm, hvm⟩ : ∃ vm, vm = valM ta tb cc := ⟨_, rfl⟩
       obtain ⟨vw, hvw⟩ : ∃ vw, vw = valW ta tb cc := ⟨_, rfl⟩
       obtain ⟨wm, hwm⟩ : ∃ wm, wm = valM ta tb2 cc2 := ⟨_, rfl⟩
       obtain ⟨ww, hww⟩ : ∃ ww, ww = valW ta tb2 cc2 := ⟨_, rfl⟩
       obtain ⟨tm, htm⟩ : ∃ tm, tm = valM ta tb ck := ⟨_, rfl⟩
       obtain ⟨tw, htw⟩ : ∃ tw, tw = valW ta tb ck := ⟨_, rfl⟩
       have hmore : valM ta tb2 cc2 ≤ valM ta tb cc ∧ valW ta tb2 cc2 ≤ valW ta tb cc := more_low HS1.out
       have htimes : valM ta tb ck = k * valM ta tb cc ∧ valW ta tb ck = k * valW ta tb cc := times_eq hS2 HKB.out.1
       have hbox : (0 ≤ valM ta tb cc ∧ valM ta tb cc ≤ 1024000000) ∧ (0 ≤ valW ta tb cc ∧ valW ta tb cc ≤ 1024000000) := val_box HD.out
       rw [← hvm, ← hvw, ← hwm, ← hww] at hmore
       rw [← hvm, ← hvw, ← htm, ← htw] at htimes
       rw [← hvm, ← hvw] at hbox
       have hp1 : wrap64 (k * vm) = tm := (dear_val HKB.out hbox.1).trans htimes.1.symm
       have hp2 : wrap64 (k * vw) = tw := (dear_val HKB.out hbox.2).trans htimes.2.symm
       have HVM := Aside0.mk hvm
       have HVW := Aside0.mk hvw
       have HWM := Aside0.mk hwm
       have HWW := Aside0.mk hww
       have HTM := Aside0.mk htm
       have HTW := Aside0.mk htw
       have HMORE := Aside0.mk hmore
       have HPP := Aside0.mk (And.intro hp1 hp2)
       clear hfe hS2 hck hckl hdi hvm hvw hwm hww htm htw hmore htimes hbox hp1 hp2 HDI HKI hi HM9 HLW9
       go_upto_region 19 with (fail)
       clear z0 z1 z2
       obtain ⟨z0, z1, z2⟩ := (HM10.out.l).cells
       go_upto_region 20 with (go_at_call 14; refine (best_n (HM10.out.l).cs HD.out (HT.out.below (HM10.out.l).bl)).mono ?_; rintro e w11 ⟨AP11, nP11, rfl, _, hb⟩; rw [← HVM.out]; have HM11 := Aside0.mk (HM10.out.below hb); have HW11 := Aside0.mk (HW10.out.below hb); have HK11 := Aside0.mk (HK0.out.below hb); clear hb)
       clear z0 z1 z2 HM10 HW10 HK0
       obtain ⟨z0, z1, z2⟩ := (HM11.out.l).cells
       go_upto_region 21 with (go_at_call 15; refine (worst_n (HM11.out.l).cs HD.out (HT.out.below (HM11.out.l).bl)).mono ?_; rintro e w12 ⟨AP12, nP12, rfl, _, hb⟩; rw [← HVW.out]; have HM12 := Aside0.mk (HM11.out.below hb); have HW12 := Aside0.mk (HW11.out.below hb); have HK12 := Aside0.mk (HK11.out.below hb); clear hb)
       clear z0 z1 z2 HM11 HW11 HK11
       obtain ⟨z0, z1, z2⟩ := (HW12.out).cells
       go_upto_region 22 with (go_at_call 14; refine (best_n (HW12.out).cs HDW.out (HT.out.below (HW12.out).bl)).mono ?_; rintro e w13 ⟨AP13, nP13, rfl, _, hb⟩; rw [← HWM.out]; have HM13 := Aside0.mk (HM12.out.below hb); have HW13 := Aside0.mk (HW12.out.below hb); have HK13 := Aside0.mk (HK12.out.below hb); clear hb)
       clear z0 z1 z2 HM12 HW12 HK12
       obtain ⟨z0, z1, z2⟩ := (HW13.out).cells
       go_upto_region 23 with (go_at_call 15; refine (worst_n (HW13.out).cs HDW.out (HT.out.below (HW13.out).bl)).mono ?_; rintro e w14 ⟨AP14, nP14, rfl, _, hb⟩; rw [← HWW.out]; have HM14 := Aside0.mk (HM13.out.below hb); have HW14 := Aside0.mk (HW13.out.below hb); have HK14 := Aside0.mk (HK13.out.below hb); clear hb)
       clear z0 z1 z2 HM13 HW13 HK13
       obtain ⟨z0, z1, z2⟩ := (HK14.out).cells
       go_upto_region 24 with (go_at_call 14; refine (best_n (HK14.out).cs HDK.out (HT.out.below (HK14.out).bl)).mono ?_; rintro e w15 ⟨AP15, nP15, rfl, _, hb⟩; rw [← HTM.out]; have HM15 := Aside0.mk (HM14.out.below hb); have HW15 := Aside0.mk (HW14.out.below hb); have HK15 := Aside0.mk (HK14.out.below hb); clear hb)
       clear z0 z1 z2 HM14 HW14 HK14
       obtain ⟨z0, z1, z2⟩ := (HK15.out).cells
       go_upto_region 25 with (go_at_call 15; refine (worst_n (HK15.out).cs HDK.out (HT.out.below (HK15.out).bl)).mono ?_; rintro e w16 ⟨AP16, nP16, rfl, _, hb⟩; rw [← HTW.out]; have HM16 := Aside0.mk (HM15.out.below hb); have HW16 := Aside0.mk (HW15.out.below hb); have HK16 := Aside0.mk (HK15.out.below hb); clear hb)
       clear z0 z1 z2 HM15 HW15 HK15
       obtain ⟨hp1, hp2⟩ := HPP.out
       have q1 : decide (vm < wm) = false := decide_eq_false (by have := HMORE.out.1; omega)
       have q2 : decide (vw < ww) = false := decide_eq_false (by have := HMORE.out.2; omega)
       go_upto_region 27 with (fail)
       clear q1 q2 hp1 hp2
       by_cases h1 : ta.length = 1
       --D(
       ·have hv1 : vm = 0 := by rw [HVM.out]; exact one_none h1 _
        have hv2 : vw = 0 := by rw [HVW.out]; exact one_none h1 _
        have q1 : (ta.length == 1) = true := by simpa using h1
        have q2 : ((ta.length : Int) == 1) = true := by rw [beq_iff_eq]; omega
        have q3 : (vm == 0) = true := by simpa using hv1
        have q4 : (vw == 0) = true := by simpa using hv2
        clear h1 hv1 hv2
        go_wp2_with (go_at_call 17; refine (awake_n _ (HT.out.below HM16.out.l.bl)).mono ?_; rintro e w17 ⟨rfl, hb⟩; have HE := Aside0.mk (below_step HM16.out.l.bl hb); clear hb)
        go_ret
        exact ⟨rfl, HE.out⟩
       --D)
       ·have q1 : (ta.length == 1) = false := by simpa using h1
        have q2 : ((ta.length : Int) == 1) = false := by rw [beq_eq_false_iff_ne]; omega
        have hn2 : 2 ≤ ta.length := by omega
        have hfb := modN_in x (ta.length : Int) (by omega)
        obtain ⟨f, hf⟩ : ∃ f : Nat, modN x (ta.length : Int) = f := ⟨(modN x (ta.length : Int)).toNat, by omega⟩
        have hfn : f < ta.length := by omega
        have HF := Aside0.mk hf
        clear hf hfb h1
        obtain ⟨z0, z1, z2, z3, z4⟩ := HM16.out.cells
        go_upto_region 30 with (go_at_call 34; refine (mod_n x (ta.length : Int) (by omega) (by omega) _).mono ?_; rw [HF.out]; rintro e w' ⟨rfl, ⟨nd, rfl⟩⟩)
        clear z0 z1 z2 z3 z4 q1 q2
        have HM17 := Aside0.mk (HM16.out.below (pw_below_drewN (Below.refl _ _) nd))
        generalize w16.drewN nd = wq at HM17 ⊢
        clear HM16 HW16 HK16
        have HLS := Aside0.mk (less_sub HD.out hfn hn2)
        have hlow : valM (ta.eraseIdx f) (tb.map (·.eraseIdx f)) cc ≤ valM ta tb cc ∧ valW (ta.eraseIdx f) (tb.map (·.eraseIdx f)) cc ≤ valW ta tb cc := less_low HD.out hfn HLS.out
        have HDL := Aside0.mk HLS.out.differ
        rw [← HVM.out, ← HVW.out] at hlow
        have HLOW := Aside0.mk hlow
        clear hlow
        obtain ⟨lw, hlw⟩ : ∃ lw, lw = ta.eraseIdx f := ⟨_, rfl⟩
        have HLWE := Aside0.mk hlw
        rw [← hlw] at HDL HLOW
        clear hlw
        have HS := Aside0.mk (fun (w' : World) (hb : Below wq.heap.size wq w') => And.intro ((HM17.out.below hb).cells).1 ((HM17.out.below hb).cells).2.2.1)
        have hf0 : (0 : Int) ≤ (f : Int) := by omega
        refine start_ (n := 9) (S := fun w' => w'.cell? ⟨g, 0, none⟩ = some (.slice B0 ta.length d0) ∧ w'.cell? ⟨g, 2, none⟩ = some (.slice B2 cc.length d2)) (ds := [8]) #[false, false, false, false, false, false, false, false, false] (by kernel_rfl) rfl rfl (HS.out _ (below_drew (Below.refl _ _))) (fun hHeld => ?_)
        refine pure_ (i := 0) (N := (some 211)) (v := ?_) (a' := ?_) #[true, false, false, false, false, false, false, false, false] rfl rfl (by kernel_rfl) (fun _ _ _ h => h) (Or.inl ⟨by rfl, ?_⟩) ?_ ?_
        rotate_left
        ·intro w'
         go_simp
         with_reducible rfl
        rotate_left
        ·simp only [Act.put, List.setIfInBounds_toArray, List.set_cons_zero, List.set_cons_succ, i64_w, i32_w]
         rfl
        refine take_ (i := 1) (N := (some 212)) (v := ?_) (a' := ?_) #[true, true, false, false, false, false, false, false, false] rfl rfl (by kernel_rfl) (fun _ _ _ h => h) (Or.inl ⟨by rfl, ?_⟩) hHeld ?_ ?_
        rotate_left
        ·rintro w' ⟨s0, s1⟩
         go_simp
         with_reducible rfl
        rotate_left
        ·simp only [Act.put, List.setIfInBounds_toArray, List.set_cons_zero, List.set_cons_succ, i64_w, i32_w]
         rfl
        refine pure_ (i := 2) (N := (some 213)) (v := ?_) (a' := ?_) #[true, true, true, false, false, false, false, false, false] rfl rfl (by kernel_rfl) (fun _ _ _ h => h) (Or.inl ⟨by rfl, ?_⟩) ?_ ?_
        rotate_left
        ·intro w'
         go_simp
         with_reducible rfl
        rotate_left
        ·simp only [Act.put, List.setIfInBounds_toArray, List.set_cons_zero, List.set_cons_succ, i64_w, i32_w]
         rfl
        refine take_ (i := 3) (N := (some 214)) (v := ?_) (a' := ?_) #[true, true, true, true, false, false, false, false, false] rfl rfl (by kernel_rfl) (fun _ _ _ h => h) (Or.inl ⟨by rfl, ?_⟩) hHeld ?_ ?_
        rotate_left
        ·rintro w' ⟨s0, s1⟩
         go_simp
         with_reducible rfl
        rotate_left
        ·simp only [Act.put, List.setIfInBounds_toArray, List.set_cons_zero, List.set_cons_succ, i64_w, i32_w]
         rfl
        refine pure_ (i := 4) (N := (some 215)) (v := ?_) (a' := ?_) #[true, true, true, true, true, false, false, false, false] rfl rfl (by kernel_rfl) (fun _ _ _ h => h) (Or.inl ⟨by rfl, ?_⟩) ?_ ?_
        rotate_left
        ·intro w'
         go_simp
         with_reducible rfl
        rotate_left
        ·simp only [Act.put, List.setIfInBounds_toArray, List.set_cons_zero, List.set_cons_succ, i64_w, i32_w]
         rfl
        have HBC := Aside0.mk (show Below wq.heap.size wq wq.drew from below_drew (Below.refl _ _))
        refine join_ (σ := Value × Nat) 1 #[true, true, true, true, true, true, true, true, false] (fun s_ => [(216, s_.1), (35, .pointer (some ⟨s_.2, 0, none⟩)), (217, .agg #[s_.1, .slice none 0 0, .slice B2 cc.length d2])]) (fun s_ w' => ∃ AL cl, s_.1 = .slice AL lw.length cl ∧ Kd.R (Kd.int .i64) 3 w' wq.heap.size (fun _ => True) (.slice AL lw.length cl) lw ∧ w'.heap[s_.2]? = some (.cells #[.slice none 0 0, .slice none 0 0, .slice none 0 0] 25 (0, 0)) ∧ Below wq.heap.size wq w' ∧ wq.heap.size ≤ s_.2) ?_ ?_
        rotate_left
        ·intro hCont
         refine two_ (i := 5) (j := 7) (Ni := (some 216)) (Nj := (some 35)) #[true, true, true, true, true, true, false, false, false] #[true, true, true, true, true, false, false, true, false] rfl rfl rfl rfl (by kernel_rfl) (by decide) (by decide) (fun K hK => ?_) (fun K hK => ?_)
         ·skip
          refine goes_ Tryd.func37 (by kernel_rfl) rfl #[.slice B0 ta.length d0, .int .i64 f] (by rfl) rfl rfl (by (try simp only [List.map_toArray, List.map_cons, List.map_nil]); first | done | rfl) ?_
          refine (without_n B0 d0 ta f hfn (by omega) ⟨HM17.out.l.cs.n0, (HM17.out.below HBC.out).l.cs.r0⟩).mono ?_
          rw [← HLWE.out]
          rintro e w18 ⟨AL, cl, rfl, hr, hb⟩
          have HR := Aside0.mk (Kd.R_lower hr HBC.out.size)
          have HB18 := Aside0.mk (below_step HBC.out hb)
          clear hr hb
          refine ⟨_, rfl, ?_⟩
          refine hK.out _ _ (HS.out _ HB18.out) (fun hHeld => ?_)
          clear hK K
          refine norm_ (a' := ?_) ?_ ?_
          rotate_left
          ·show Act.put _ (some 216) _ = _
           simp only [Act.put, List.setIfInBounds_toArray, List.set_cons_zero, List.set_cons_succ, i64_w, i32_w]
           rfl
          refine pure_ (i := 6) (N := (some 217)) (v := ?_) (a' := ?_) #[true, true, true, true, true, true, true, false, false] rfl rfl (by kernel_rfl) (fun _ _ _ h => h) (Or.inl ⟨by rfl, ?_⟩) ?_ ?_
          rotate_left
          ·intro w'
           go_simp
           with_reducible rfl
          rotate_left
          ·simp only [Act.put, List.setIfInBounds_toArray, List.set_cons_zero, List.set_cons_succ, i64_w, i32_w]
           rfl
          refine one_ (i := 7) (N := (some 35)) #[true, true, true, true, true, true, true, true, false] rfl rfl (by kernel_rfl) (by decide) (fun K hK => ?_)
          refine box_step ?hg (N := 35) ?hd (cs := #[.slice none 0 0, .slice none 0 0, .slice none 0 0]) (t := 25) ?hr ?_; (case hd => rfl); (case hg => rfl); (case hr => first | (go_simp; done) | (go_simp; rfl))
          intro gL hg w19 hbox hb
          have HGL := Aside0.mk (show wq.heap.size ≤ gL by rw [hg]; exact HB18.out.size)
          have HR2 := Aside0.mk (Kd.R_below HR.out hb)
          have HB19 := Aside0.mk (below_step HB18.out hb)
          have HBX := Aside0.mk hbox
          clear hbox hb hg
          refine hK.out _ _ (HS.out _ HB19.out) (fun hHeld => ?_)
          clear hK K
          refine norm_ (a' := ?_) ?_ ?_
          rotate_left
          ·show Act.put _ (some 35) _ = _
           simp only [Act.put, List.setIfInBounds_toArray, List.set_cons_zero, List.set_cons_succ, i64_w, i32_w]
           rfl
          exact norm_ (by simp only [putAll, Act.put, List.setIfInBounds_toArray, List.set_cons_zero, List.set_cons_succ]) (hCont (.slice AL lw.length cl, gL) _ ⟨AL, cl, rfl, HR2.out, HBX.out, HB19.out, HGL.out⟩)
         ·skip
          refine box_step ?hg (N := 35) ?hd (cs := #[.slice none 0 0, .slice none 0 0, .slice none 0 0]) (t := 25) ?hr ?_; (case hd => rfl); (case hg => rfl); (case hr => first | (go_simp; done) | (go_simp; rfl))
          intro gL hg w19 hbox hb
          have HGL := Aside0.mk (show wq.heap.size ≤ gL by rw [hg]; exact HBC.out.size)
          have HB19 := Aside0.mk (below_step HBC.out hb)
          have HBX := Aside0.mk hbox
          clear hbox hb hg
          refine hK.out _ _ (HS.out _ HB19.out) (fun hHeld => ?_)
          clear hK K
          refine norm_ (a' := ?_) ?_ ?_
          rotate_left
          ·show Act.put _ (some 35) _ = _
           simp only [Act.put, List.setIfInBounds_toArray, List.set_cons_zero, List.set_cons_succ, i64_w, i32_w]
           rfl
          refine one_ (i := 5) (N := (some 216)) #[true, true, true, true, true, true, false, true, false] rfl rfl (by kernel_rfl) (by decide) (fun K hK => ?_)
          refine goes_ Tryd.func37 (by kernel_rfl) rfl #[.slice B0 ta.length d0, .int .i64 f] (by rfl) rfl rfl (by (try simp only [List.map_toArray, List.map_cons, List.map_nil]); first | done | rfl) ?_
          refine (without_n B0 d0 ta f hfn (by omega) ⟨HM17.out.l.cs.n0, (HM17.out.below HB19.out).l.cs.r0⟩).mono ?_
          rw [← HLWE.out]
          rintro e w18 ⟨AL, cl, rfl, hr, hb⟩
          have HR := Aside0.mk (Kd.R_lower hr HB19.out.size)
          have HB18 := Aside0.mk (below_step HB19.out hb)
          have HBX2 := Aside0.mk (blk_below HBX.out hb)
          clear hr hb
          refine ⟨_, rfl, ?_⟩
          refine hK.out _ _ (HS.out _ HB18.out) (fun hHeld => ?_)
          clear hK K
          refine norm_ (a' := ?_) ?_ ?_
          rotate_left
          ·show Act.put _ (some 216) _ = _
           simp only [Act.put, List.setIfInBounds_toArray, List.set_cons_zero, List.set_cons_succ, i64_w, i32_w]
           rfl
          refine pure_ (i := 6) (N := (some 217)) (v := ?_) (a' := ?_) #[true, true, true, true, true, true, true, true, false] rfl rfl (by kernel_rfl) (fun _ _ _ h => h) (Or.inl ⟨by rfl, ?_⟩) ?_ ?_
          rotate_left
          ·intro w'
           go_simp
           with_reducible rfl
          rotate_left
          ·simp only [Act.put, List.setIfInBounds_toArray, List.set_cons_zero, List.set_cons_succ, i64_w, i32_w]
           rfl
          exact norm_ (by simp only [putAll, Act.put, List.setIfInBounds_toArray, List.set_cons_zero, List.set_cons_succ]) (hCont (.slice AL lw.length cl, gL) _ ⟨AL, cl, rfl, HR.out, HBX2.out, HB18.out, HGL.out⟩)
        rintro ⟨vO, gL⟩ wJ ⟨AL, cl, hv, hr, hx, hb, hg⟩
        dsimp only at hv hx hg ⊢
        subst hv
        have HRJ := Aside0.mk hr
        have HXJ := Aside0.mk hx
        have HBJ := Aside0.mk hb
        have HGJ := Aside0.mk hg
        clear hr hx hb hg HBC
        refine norm_ (a' := ?_) ?_ ?_
        rotate_left
        ·simp only [putAll, Act.put, List.setIfInBounds_toArray, List.set_cons_zero, List.set_cons_succ]
         rfl
        refine last_ (i := 8) (N := none) #[true, true, true, true, true, true, true, true, true] rfl rfl (by kernel_rfl) (by decide) (fun K hK => ?_)
        have hs0 : wJ.cell? ⟨gL, 0, none⟩ = some (.slice none 0 0) := (boxS7 HXJ.out).1
        have hs1 : wJ.cell? ⟨gL, 1, none⟩ = some (.slice none 0 0) := (boxS7 HXJ.out).2.1
        have hs2 : wJ.cell? ⟨gL, 2, none⟩ = some (.slice none 0 0) := (boxS7 HXJ.out).2.2
        have hf0 := blk_frozen HXJ.out 0
        have hf1 := blk_frozen HXJ.out 1
        have hf2 := blk_frozen HXJ.out 2
        refine skip_ (w1 := ?_) (by rfl) rfl ?_ ?_
        rotate_left
        ·go_simp
         rfl
        refine hK.out _ _ ?_
        clear hK K
        clear hs0 hs1 hs2 hf0 hf1 hf2
        refine done_ (by kernel_rfl) ?_
        have HLS0 := Aside0.mk (LsAt.first (X2 := .slice B2 cc.length d2) HRJ.out HXJ.out HBJ.out HGJ.out)
        generalize ((wJ.setCell ⟨gL, 0, none⟩ (.slice AL lw.length cl)).setCell ⟨gL, 1, none⟩ (.slice none 0 0)).setCell ⟨gL, 2, none⟩ (.slice B2 cc.length d2) = wl at HLS0 ⊢
        clear HRJ HXJ HBJ HGJ wJ HS
        obtain ⟨rows, hrows⟩ : ∃ rows : Nat → List (List Int), rows = fun t => (tb.take t).map (·.eraseIdx f) := ⟨_, rfl⟩
        have HRW0 := Aside0.mk (show rows 0 = [] by rw [hrows]; rfl)
        have HRWE := Aside0.mk (show rows tb.length = tb.map (·.eraseIdx f) by rw [hrows]; dsimp only; rw [List.take_length])
        have HRWL := Aside0.mk (show ∀ t, (rows t).length ≤ 10 from fun t => by rw [hrows]; dsimp only; rw [List.length_map, List.length_take]; omega)
        have HRWS := Aside0.mk (show ∀ t (ht : t < tb.length), rows (t + 1) = rows t ++ [tb[t].eraseIdx f] from fun t ht => by rw [hrows]; dsimp only; rw [List.take_succ_eq_append_getElem ht, List.map_append]; rfl)
        clear hrows
        go_wp2
        go_loopg [36] tb.length (fun kq v36 w' => ∃ (t : Nat) (u1 : Value), v36 = .int .i64 t ∧ Aside0 (kq + t = tb.length) ∧ Aside0 (LsAt wq gL AL cl lw (.slice B2 cc.length d2) u1 (rows t) w'))
        case atStart => exact ⟨0, _, rfl, ⟨by omega⟩, ⟨by rw [HRW0.out]; exact HLS0.out⟩⟩
        case round =>
         clear HLS0
         obtain ⟨t, u1, rfl, HKT, HLT⟩ := hrel
         obtain ⟨k5, rfl⟩ : ∃ k5, k5 = gk := ⟨_, rfl⟩
         obtain ⟨AV, cv, rfl⟩ := Kd.R_slice HLT.out.r1
         have HMT := Aside0.mk (HM17.out.below HLT.out.bl)
         obtain ⟨z0, z1, z2, _, _⟩ := HMT.out.cells
         by_cases ht : t < tb.length
         ·obtain ⟨ad1, cs1, e1, hcs1, hK1, hcc1⟩ := ReadsRow.get_ HMT.out.l.cs.r1 [] (t : Int) (by omega) (by omega)
          obtain ⟨Ar, cr, rfl, hcr, hCr⟩ := hK1
          simp only [Int.toNat_natCast] at hcr hCr hcc1
          have hcell1 := hcc1 0 _ rfl
          simp only [Nat.mul_one, Nat.add_zero, Kd.slice] at hcell1
          obtain ⟨row2, hrow⟩ : ∃ row2, tb.getD t [] = row2 := ⟨_, rfl⟩
          have hrow2 : tb[t] = row2 := by rw [← hrow, List.getD_eq_getElem?_getD, List.getElem?_eq_getElem ht]; rfl
          have hrl2 : row2.length = ta.length := by rw [← hrow2]; exact (row_at HD.out.is t ht).1
          rw [hrow] at hcr hCr hcell1
          have HRS := Aside0.mk (show rows (t + 1) = rows t ++ [row2.eraseIdx f] by rw [HRWS.out t ht, hrow2])
          obtain ⟨er, her⟩ : ∃ er, er = row2.eraseIdx f := ⟨_, rfl⟩
          have HER := Aside0.mk her
          rw [← her] at HRS
          have HCR := Aside0.mk (And.intro hcr hCr)
          have HRL := Aside0.mk hrl2
          have HXL := Aside0.mk (HRWL.out t)
          obtain ⟨xs, hxs⟩ : ∃ xs, xs = rows t := ⟨_, rfl⟩
          rw [← hxs] at HLT HRS HXL
          clear hcs1 hcc1 hrow hrow2 hCr hcr her hrl2 hxs
          cases e1
          obtain ⟨y0, y1, y2⟩ := HLT.out.cells
          go_upto_region 35 with (fail)
          go_upto_region 33 with (first | (go_at_call 37; refine (without_n Ar cr row2 f (by rw [HRL.out]; exact hfn) (by rw [HRL.out]; omega) HCR.out).mono ?_; rw [← HER.out]; rintro e w20 ⟨AE, ce, rfl, hr, hb⟩; have HR20 := Aside0.mk hr; have HLT20 := Aside0.mk (HLT.out.below hb); clear hr hb) | (at_builtin; refine app_row HLT20.out.r1 HR20.out (Nat.le_trans HLT.out.bl.size (Nat.le_refl _)) HLT20.out.bl HLT20.out.bl.size (by have := HXL.out; omega) _ _ _ _ _ _ _ rfl rfl rfl rfl ?_; intro A5 c5 w21 ho hb hg; have HMO := Aside0.mk (HLT20.out.more ho hb hg); clear y0 y1 y2 z0 z1 z2 hcell1; have y1 : w21.cell? ⟨gL, 1, none⟩ = some (.slice AV xs.length cv) := (blk_cell HMO.out.1 1).trans rfl; have hf5 := blk_frozen HMO.out.1 1; clear ho hb hg))
          clear y1 hf5
          go_wp2
          go_roundg (k5 - 1)
          case measure => have := HKT.out; omega
          case rel => exact ⟨t + 1, _, by go_num, ⟨by have := HKT.out; omega⟩, ⟨by rw [HRS.out]; exact HMO.out.2⟩⟩
         ·obtain rfl : t = tb.length := by have := HKT.out; omega
          rw [HRWE.out] at HLT
          obtain ⟨lr, hlr⟩ : ∃ lr, lr = tb.map (·.eraseIdx f) := ⟨_, rfl⟩
          rw [← hlr] at HLT HDL HLOW
          obtain ⟨lm, hlm⟩ : ∃ lm, lm = valM lw lr cc := ⟨_, rfl⟩
          obtain ⟨lx, hlx⟩ : ∃ lx, lx = valW lw lr cc := ⟨_, rfl⟩
          rw [← hlm, ← hlx] at HLOW
          have HLM := Aside0.mk hlm
          have HLX := Aside0.mk hlx
          have HL20 := Aside0.mk (HLT.out.case HM17.out.l.cs.r2 HM17.out.l.cs.n2 HM17.out.l.bl)
          clear hlr hlm hlx ht
          go_upto_region 36 with (fail)
          clear z0 z1 z2
          obtain ⟨z0, z1, z2⟩ := HL20.out.cells
          go_upto_region 37 with (go_at_call 14; refine (best_n HL20.out.cs HDL.out (HT.out.below HL20.out.bl)).mono ?_; rintro e w22 ⟨AP17, nP17, rfl, _, hb⟩; rw [← HLM.out]; have HL21 := Aside0.mk (HL20.out.below hb); clear hb)
          clear z0 z1 z2
          obtain ⟨z0, z1, z2⟩ := HL21.out.cells
          go_upto_region 38 with (go_at_call 15; refine (worst_n HL21.out.cs HDL.out (HT.out.below HL21.out.bl)).mono ?_; rintro e w23 ⟨AP18, nP18, rfl, _, hb⟩; rw [← HLX.out]; have HL22 := Aside0.mk (HL21.out.below hb); clear hb)
          clear z0 z1 z2
          have q1 : decide (lm ≤ vm) = true := decide_eq_true HLOW.out.1
          have q2 : decide (lx ≤ vw) = true := decide_eq_true HLOW.out.2
          go_wp2_with (go_at_call 17; refine (awake_n _ (HT.out.below HL22.out.bl)).mono ?_; rintro e w24 ⟨rfl, hb⟩; have HE := Aside0.mk (below_step HL22.out.bl hb); clear hb)
          go_ret
          exact ⟨rfl, HE.out⟩
end
def tickinglaw07_TestsMore.f (k : Nat) (a : List Int) (b : List (List Int)) (c : List Int) (s : List Int) (x y : Int) : Option Bool := some true
theorem TestsMore_ev (a : List Int) (b : List (List Int)) (c : List Int) (s : List Int) (x y : Int) : Ev (fun k => tickinglaw07_TestsMore.f k a b c s x y) true := Ev.now _
theorem tickinglaw07_TestsMore.calls (k : Nat) (A0 : Option Addr) (c0 : Nat) (a : List Int) (A1 : Option Addr) (c1 : Nat) (b : List (List Int)) (A2 : Option Addr) (c2 : Nat) (c : List Int) (A : Option Addr) (n : Nat) (s : List Int) (x y : Int) (r : Bool) (w : World)
  (h0 : Kd.C (Kd.int .i64) w A0 a.length a) (n0 : a.length ≤ c0) (h1 : Kd.C (Kd.slice 3 (Kd.int .i64)) w A1 b.length b) (n1 : b.length ≤ c1) (h2 : Kd.C (Kd.int .i64) w A2 c.length c) (n2 : c.length ≤ c2) (hs : Kd.C (Kd.int .i64) w A s.length s) (ns : s.length ≤ n) (h : tickinglaw07_TestsMore.f k a b c s x y = some r) (hT : Tab w) :
  Calls Tryd.prog 8 #[.agg #[.slice A0 a.length c0, .slice A1 b.length c1, .slice A2 c.length c2], .slice A s.length n, .agg #[.int .i64 x, .int .i64 y]] w fun e w' => e = .returned (.bool r) ∧ Below w.heap.size w w' := by
 obtain rfl := Option.some.inj h
 exact more_n ⟨h0, n0, h1, n1, h2, n2⟩ A n s ⟨ns, hs⟩ x y hT
end Go.Proofs.YtekmiepdodaidaaDoor.X
end

section
/- Arguments as they come in, opened kind by kind: what a value's cells read as is a word of the kind. -/
set_option linter.unusedVariables false
set_option linter.unusedSimpArgs false
namespace Go.Proofs.YtekmiepdodaidaaDoor.X
open Go.ChangeShapes Go.WideShapes Go.ChangeAt Go.RowKit Go.Proofs.YtekmiepdodaidaaDoorW.PrintWords
section
variable {H : Type} {enc : TypeId × Value → H} {P : Program} {W : World} {base : Nat} {held : Bool}
/-- Whatever is read of type t is a word of the kind, and it is good. -/
def Opens {α : Type} (enc : TypeId × Value → H) (P : Program) (W : World) (base : Nat) (held : Bool) (d : Kd α) (t : TypeId) (good : α → Prop) : Prop :=
 ∀ fuel cs x, DataW.trod enc P W base (fun _ => true) held fuel t cs = some x → ∃ a : α, d.K W a cs ∧ good a
theorem opens_int {t : TypeId} {k : IntKind} (ht : P.underlying t = some (.int k)) : Opens enc P W base held (Kd.int k) t (fun z => (Lit.int k z).wf = true) := by
 intro fuel cs x h
 obtain ⟨z, e, _, hw⟩ := DataW.trod_int ht h
 exact ⟨z, e, hw⟩
theorem opens_slice {α : Type} {d : Kd α} {t e : TypeId} {good : α → Prop} (ht : P.underlying t = some (.slice e)) (hs : P.cellsOf e = d.sz) (he : Opens enc P W base held d e good) :
  Opens enc P W base held (Kd.slice e d) t (fun l => l.length ≤ maxLen ∧ ∀ x ∈ l, good x) := by
 intro fuel cs x h
 rcases Go.Deep.open_slice ht h with ⟨rfl, _⟩ | ⟨a, len, cap, m, n, D, Pl, rfl, hb, hl, hm, hmm, hxx, hx⟩
 ·exact ⟨[], ⟨none, 0, rfl, Nat.le_refl _, Kd.C_nil _ _⟩, Nat.zero_le _, by simp⟩
 simp only [if_true] at hmm
 subst hmm
 have each : ∀ i, i < len → ∃ y : α, ∃ cs', W.cells? base (a.add (i * d.sz)) d.sz = some cs' ∧ d.K W y cs' ∧ good y := by
  intro i hi
  obtain ⟨cs', h1, h2⟩ := hx i (by omega)
  obtain ⟨y, h3, h4⟩ := he _ _ _ h2
  rw [hs] at h1
  exact ⟨y, cs', h1, h3, h4⟩
 have pick : ∃ l : List α, l.length = len ∧ ∀ i y, l[i]? = some y → ∃ cs', W.cells? base (a.add (i * d.sz)) d.sz = some cs' ∧ d.K W y cs' ∧ good y := by
  clear hl hm hx hxx h
  induction len with
  | zero => exact ⟨[], rfl, fun i y hy => by simp at hy⟩
  | succ len ih =>
   obtain ⟨l, hl, hy⟩ := ih (fun i hi => each i (by omega))
   obtain ⟨y0, hy0⟩ := each len (by omega)
   refine ⟨l ++ [y0], by simp [hl], fun i y hi => ?_⟩
   rcases Nat.lt_trichotomy i l.length with h | h | h
   ·rw [List.getElem?_append_left h] at hi
    exact hy i y hi
   ·rw [List.getElem?_append_right (by omega)] at hi
    have e0 : i - l.length = 0 := by omega
    rw [e0] at hi
    have : y0 = y := by simpa using hi
    subst this
    rw [h, hl]
    exact hy0
   ·rw [List.getElem?_eq_none (by simp; omega)] at hi
    cases hi
 obtain ⟨l, rfl, hy⟩ := pick
 refine ⟨l, ⟨some a, _, rfl, hl, rfl, ?_, fun hn => ⟨a, rfl, fun j p hj => ?_⟩⟩, Nat.le_trans hl hm, fun x hx => ?_⟩
 ·have := Nat.le_trans hl hm
  simpa [maxLen] using this
 ·obtain ⟨cs', h1, h2, _⟩ := hy j p hj
  obtain ⟨h3, h4, h5⟩ := World.cells?_some h1
  refine ⟨cs', h4, h2, fun i u hu => ?_⟩
  have hi : i < d.sz := by
   rcases Nat.lt_or_ge i d.sz with h | h
   ·exact h
   ·rw [List.getElem?_eq_none (by omega)] at hu
    cases hu
  have := h5 i hi
  rw [hu] at this
  rw [← this]
  congr 1
  simp only [Addr.add]
  by_cases h6 : i = 0
  ·subst h6; simp
  ·by_cases h7 : j * d.sz = 0
   ·simp [h6, h7]
   ·simp [h6, h7, Nat.add_assoc]
 ·obtain ⟨j, hj⟩ := List.getElem?_of_mem hx
  obtain ⟨_, _, _, h4⟩ := hy j x hj
  exact h4
theorem opens_arg {α : Type} {d : Kd α} {t : TypeId} {good : α → Prop} {v : Value} {x : DataW H} {p : List MemPlace} (ho : Opens enc P W base held d t good) (h : DataW.Trod enc P W base (fun _ => true) held t v x p) : ∃ a : α, d.K W a v.cells.toList ∧ good a := by
 obtain ⟨fuel, hf⟩ := h
 exact ho _ _ _ hf
/-- An argument that is a slice. -/
theorem open_slice {α : Type} {d : Kd α} {t e : TypeId} {good : α → Prop} {v : Value} {x : DataW H} {p : List MemPlace} (ht : P.underlying t = some (.slice e)) (hs : P.cellsOf e = d.sz) (he : Opens enc P W 0 true d e good)
  (hv : Value.okWide P W .any base t v) (h : DataW.Trod enc P W 0 (fun _ => true) true t v x p) :
  ∃ (a : Option Addr) (l : List α) (cap : Nat), v = .slice a l.length cap ∧ l.length ≤ cap ∧ Kd.C d W a l.length l ∧ l.length ≤ maxLen ∧ ∀ x ∈ l, good x := by
 obtain ⟨a, len, cap, rfl⟩ := okWide_slice ht hv
 obtain ⟨l, ⟨A, c, e1, h1, h2⟩, h3, h4⟩ := opens_arg (opens_slice ht hs he) h
 simp only [Value.cells, List.cons.injEq, Value.slice.injEq, and_true] at e1
 obtain ⟨rfl, rfl, rfl⟩ := e1
 exact ⟨_, l, _, rfl, h1, h2, h3, h4⟩
theorem okWide_struct {r : Reach} {fs : Array Field} {b0 : Nat} {t : TypeId} {v : Value} (ht : P.underlying t = some (.struct fs)) (h : Value.okWide P W r b0 t v) : ∃ cs, v = .agg cs ∧ cs.size = P.cellsOf t := by
 simp only [Value.okWide, ht] at h
 cases v <;> simp_all
/-- An argument that is a struct of three slices. -/
theorem open_three {α β γ : Type} {d0 : Kd α} {d1 : Kd β} {d2 : Kd γ} {t e0 e1 e2 : TypeId} {f0 f1 f2 : Field} {g0 : α → Prop} {g1 : β → Prop} {g2 : γ → Prop} {v : Value} {x : DataW H} {p : List MemPlace}
  (ht : P.underlying t = some (.struct #[f0, f1, f2])) (hc : P.cellsOf t = 3) (o0 : f0.offset = 0) (o1 : f1.offset = 1) (o2 : f2.offset = 2) (c0 : P.cellsOf f0.type = 1) (c1 : P.cellsOf f1.type = 1) (c2 : P.cellsOf f2.type = 1)
  (t0 : P.underlying f0.type = some (.slice e0)) (t1 : P.underlying f1.type = some (.slice e1)) (t2 : P.underlying f2.type = some (.slice e2)) (s0 : P.cellsOf e0 = d0.sz) (s1 : P.cellsOf e1 = d1.sz) (s2 : P.cellsOf e2 = d2.sz)
  (h0 : Opens enc P W 0 true d0 e0 g0) (h1 : Opens enc P W 0 true d1 e1 g1) (h2 : Opens enc P W 0 true d2 e2 g2)
  (hv : Value.okWide P W .any base t v) (h : DataW.Trod enc P W 0 (fun _ => true) true t v x p) :
  ∃ (a0 : Option Addr) (l0 : List α) (k0 : Nat) (a1 : Option Addr) (l1 : List β) (k1 : Nat) (a2 : Option Addr) (l2 : List γ) (k2 : Nat), v = .agg #[.slice a0 l0.length k0, .slice a1 l1.length k1, .slice a2 l2.length k2] ∧
   (l0.length ≤ k0 ∧ Kd.C d0 W a0 l0.length l0 ∧ l0.length ≤ maxLen ∧ ∀ x ∈ l0, g0 x) ∧ (l1.length ≤ k1 ∧ Kd.C d1 W a1 l1.length l1 ∧ l1.length ≤ maxLen ∧ ∀ x ∈ l1, g1 x) ∧ (l2.length ≤ k2 ∧ Kd.C d2 W a2 l2.length l2 ∧ l2.length ≤ maxLen ∧ ∀ x ∈ l2, g2 x) := by
 obtain ⟨cs, rfl, hsz⟩ := okWide_struct ht hv
 obtain ⟨fuel, hf⟩ := h
 obtain ⟨y0, y1, y2, n, _, hl, r0, r1, r2⟩ := Go.Deep.trod_struct3 ht hf
 rw [hc] at hl hsz
 obtain ⟨ls⟩ := cs
 match ls, hsz with
 | [u0, u1, u2], _ =>
  rw [o0, c0] at r0
  rw [o1, c1] at r1
  rw [o2, c2] at r2
  simp only [Value.cells, List.drop_zero, List.take_succ_cons, List.take_zero, List.drop_succ_cons] at r0 r1 r2
  obtain ⟨l0, ⟨a0, k0, q0, m0, n0⟩, w0⟩ := opens_slice t0 s0 h0 _ _ _ r0
  obtain ⟨l1, ⟨a1, k1, q1, m1, n1⟩, w1⟩ := opens_slice t1 s1 h1 _ _ _ r1
  obtain ⟨l2, ⟨a2, k2, q2, m2, n2⟩, w2⟩ := opens_slice t2 s2 h2 _ _ _ r2
  simp only [List.cons.injEq, and_true] at q0 q1 q2
  subst q0 q1 q2
  exact ⟨a0, l0, k0, a1, l1, k1, a2, l2, k2, rfl, ⟨m0, n0, w0⟩, ⟨m1, n1, w1⟩, ⟨m2, n2, w2⟩⟩
end
end Go.Proofs.YtekmiepdodaidaaDoor.X
end

section
/- What every row of this seat uses: what its condition gives, the door's heap, the listed tables, the arguments' kinds. -/
namespace Go.Proofs.YtekmiepdodaidaaDoor
open Go.ChangeShapes Go.WideShapes Go.ChangeAt Go.RowKit Go.Proofs.YtekmiepdodaidaaDoorW.PrintWords
theorem own : ownKnob Tryd.prog.godebug = none := by kernel_rfl
theorem laidOut : laidOutB Tryd.prog = true := by kernel_rfl
def laidTabs : List (String × DataW Unit) := [("math/bits.deBruijn32tab", Rows.laid_math_bits_deBruijn32tab), ("math/bits.deBruijn64tab", Rows.laid_math_bits_deBruijn64tab)]
theorem g64 : Tryd.prog.globalNamed "math/bits.deBruijn64tab" = some 1 := by kernel_rfl
theorem tab64 : Rows.laid_math_bits_deBruijn64tab (H := Unit) = Lib.tabData .u8 (Lib.deBruijn64tab.map fun n : Nat => (n : Int)) := rfl
set_option maxRecDepth 100000 in
theorem door_met (os : Os) (args : Array Value) : laidMetH Tryd.prog laidTabs ((World.doorLaid Tryd.prog 19 os).forCall (fun _ _ => 0) ⟨#[], args, []⟩).memory :=
 laidMetH_of_parts3 (fuel := 8) (laidMet_of_run' 8 (by kernel_rfl) (by kernel_rfl)) (by kernel_rfl) (by kernel_rfl)
set_option maxRecDepth 100000 in
theorem tab_of_laid {W : World} (h : laidMetH Tryd.prog laidTabs W) : X.Tab W := by
 rw [MakeChecks.laidMetH_plain _ _ _ (by kernel_rfl)] at h
 have h1 := laidMet.tail h
 rw [tab64] at h1
 have e : ∃ t n e, (Tryd.prog.globals[1]?).map (·.type) = some t ∧ Tryd.prog.underlying t = some (.array n e) ∧ Tryd.prog.underlying e = some (.int .u8) ∧ Tryd.prog.cellsOf e = 1 ∧ Tryd.prog.cellsOf t = n :=
  ⟨112, 64, 5, by kernel_rfl, by kernel_rfl, by kernel_rfl, by kernel_rfl, by kernel_rfl⟩
 obtain ⟨t, n, e, e1, e2, e3, e4, e5⟩ := e
 have h2 := Lib.tabIs_of_head g64 e1 e2 e3 e4 e5 h1
 have h3 : TabAt 1 Lib.deBruijn64tab W := by
  intro j hj
  have h4 := h2.cell g64 j (by simpa using hj)
  rw [h4]
  simp [List.getD, List.getElem?_map, List.getElem?_eq_getElem hj]
 refine ⟨h3, ?_⟩
 have h4 := h3 0 (by decide)
 unfold World.cell? at h4
 rcases Nat.lt_or_ge 1 W.heap.size with h | h
 ·exact h
 ·simp [Array.getElem?_eq_none h] at h4
section
variable {H : Type} {enc : TypeId × Value → H} {W : World} {base : Nat} {held : Bool}
theorem opens3 : X.Opens enc Tryd.prog W base held (Kd.int .i64) 3 (fun z => (Lit.int .i64 z).wf = true) := X.opens_int Tryd.underlying3
set_option maxRecDepth 100000 in
theorem opens22 : X.Opens enc Tryd.prog W base held (Kd.slice 3 (Kd.int .i64)) 22 (fun l => l.length ≤ maxLen ∧ ∀ z ∈ l, (Lit.int .i64 z).wf = true) := X.opens_slice Tryd.underlying22 (by kernel_rfl) opens3
set_option maxRecDepth 100000 in
set_option linter.all false in
theorem opens53 : X.Opens enc Tryd.prog W base held X.k53 53 (fun _ => True) := by
 intro fuel cs x h
 obtain ⟨xs, m, _, _, hl, hn, hx⟩ := DataW.trod_array Tryd.underlying53 h
 have c3 : Tryd.prog.cellsOf 3 = 1 := by kernel_rfl
 have c53 : Tryd.prog.cellsOf 53 = 2 := by kernel_rfl
 rw [c53] at hl
 match cs, hl with
 | [u0, u1], _ =>
  have h0 := hx 0 (by omega)
  have h1 := hx 1 (by omega)
  rw [c3] at h0 h1
  rw [List.getElem?_eq_getElem (by omega)] at h0 h1
  obtain ⟨a, e0, _, w0⟩ := DataW.trod_int Tryd.underlying3 h0
  obtain ⟨b, e1, _, w1⟩ := DataW.trod_int Tryd.underlying3 h1
  simp at e0 e1
  subst e0 e1
  exact ⟨⟨a, b⟩, X.k53_mk W ⟨a, b⟩, trivial⟩
set_option maxRecDepth 100000 in
theorem open_case {v : Value} {x : DataW H} {p : List MemPlace} (hv : Value.okWide Tryd.prog W .any base 25 v) (h : DataW.Trod enc Tryd.prog W 0 (fun _ => true) true 25 v x p) :
  ∃ (a0 : Option Addr) (l0 : List Int) (k0 : Nat) (a1 : Option Addr) (l1 : List (List Int)) (k1 : Nat) (a2 : Option Addr) (l2 : List Int) (k2 : Nat), v = .agg #[.slice a0 l0.length k0, .slice a1 l1.length k1, .slice a2 l2.length k2] ∧
   (l0.length ≤ k0 ∧ Kd.C (Kd.int .i64) W a0 l0.length l0 ∧ l0.length ≤ maxLen ∧ ∀ z ∈ l0, (Lit.int .i64 z).wf = true) ∧
   (l1.length ≤ k1 ∧ Kd.C (Kd.slice 3 (Kd.int .i64)) W a1 l1.length l1 ∧ l1.length ≤ maxLen ∧ ∀ l ∈ l1, l.length ≤ maxLen ∧ ∀ z ∈ l, (Lit.int .i64 z).wf = true) ∧
   (l2.length ≤ k2 ∧ Kd.C (Kd.int .i64) W a2 l2.length l2 ∧ l2.length ≤ maxLen ∧ ∀ z ∈ l2, (Lit.int .i64 z).wf = true) :=
 X.open_three Tryd.underlying25 (by kernel_rfl) rfl rfl rfl (by kernel_rfl) (by kernel_rfl) (by kernel_rfl) Tryd.underlying22 Tryd.underlying23 Tryd.underlying22 (by kernel_rfl) (by kernel_rfl) (by kernel_rfl) opens3 opens22 opens3 hv h
end
end Go.Proofs.YtekmiepdodaidaaDoor
end

section
/- Layer 7: an argument that is an array of two ints. -/
set_option linter.unusedVariables false
namespace Go.Proofs.YtekmiepdodaidaaDoor
open Go.ChangeShapes Go.WideShapes Go.ChangeAt Go.RowKit
section
variable {H : Type} {enc : TypeId × Value → H} {W : World} {base : Nat} {held : Bool}
set_option maxRecDepth 100000 in
theorem open_ar2 {v : Value} {x : DataW H} {p : List MemPlace} (hv : Value.okWide Tryd.prog W .any base 53 v) (h : DataW.Trod enc Tryd.prog W 0 (fun _ => true) true 53 v x p) : ∃ a b : Int, v = .agg #[.int .i64 a, .int .i64 b] := by
 have hc : ∃ cs, v = .agg cs := by
  simp only [Value.okWide, Tryd.underlying53] at hv
  obtain ⟨cs, h1, _⟩ := hv
  exact ⟨cs, h1⟩
 obtain ⟨⟨ls⟩, rfl⟩ := hc
 obtain ⟨fuel, hf⟩ := h
 obtain ⟨s, hs, _⟩ := opens53 (base := 0) (held := true) fuel ls _ hf
 have e := X.k53_open hs
 exact ⟨s.f0, s.f1, by rw [e]⟩
end
end Go.Proofs.YtekmiepdodaidaaDoor
end
