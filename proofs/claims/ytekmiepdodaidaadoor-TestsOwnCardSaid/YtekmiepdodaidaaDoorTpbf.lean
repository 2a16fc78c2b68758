/- Texts behind TestsOwn, part 32: contracts of the program's functions and the plain words for them. -/
import Derived.Test.YtekmiepdodaidaaDoorTpas
import Derived.Test.YtekmiepdodaidaaDoorTpat
import Derived.Test.YtekmiepdodaidaaDoorTpau
import Derived.Test.YtekmiepdodaidaaDoorTpav
import Derived.Test.YtekmiepdodaidaaDoorTpaw
import Derived.Test.YtekmiepdodaidaaDoorTpax
import Derived.Test.YtekmiepdodaidaaDoorTpaz
import Derived.Test.YtekmiepdodaidaaDoorTpbc
import Derived.Test.YtekmiepdodaidaaDoorTpbd
import Derived.Test.YtekmiepdodaidaaDoorTpbe
section
/- (trial).plan's closure add, by hand: the step, with the test that function 51 selects; and plan itself. -/
set_option linter.unusedVariables false
set_option linter.unusedSimpArgs false
namespace Go.Proofs.YtekmiepdodaidaaDoor.X
open Go.RowKit Go.Proofs.YtekmiepdodaidaaDoorW.PrintWords Go.Proofs.YtekmiepdodaidaaDoorW.PrintLast Go.Proofs.YtekmiepdodaidaaDoorW.PrintMore

theorem adds_mk51 {E : PEnv} {W : World} {v : Value} {xs : List S57} {ad : Addr} {k : Nat} {x : Int} (hE : POk E) (h : PW E W v xs) (e1 : E.A3 = some ad) (hx : E.W0.cell? (ad.add k) = some (.int .u64 x)) :
  W.cell? ⟨E.ga, 0, none⟩ = some (.func (.func 68) #[] #[.pointer (some ⟨E.go, 0, none⟩), .pointer (some ⟨E.gs, 0, none⟩), .pointer (some ⟨E.ga, 0, none⟩), .pointer (some ⟨E.gt, 0, none⟩)]) ∧ W.cell? ⟨E.gt, 3, none⟩ = some (.slice (some ad) E.l3.length E.c3) ∧ W.cell? (ad.add k) = some (.int .u64 x) :=
 ⟨(blk_cell h.ba 0).trans rfl, by rw [← e1]; exact (blk_cell h.bt 3).trans rfl, pw_cell_below h.bl hx⟩
set_option maxHeartbeats 8000000 in
set_option maxRecDepth 100000 in
theorem add_step51 (E : PEnv) (tf : Int → Int) (R : Int → Prop) (H : Runs tf E.l3 R) (hF : E.F = 51) (s : Int) (hR : R s) (hp : pcount s ≠ 1) (W : World) (v : Value) (xs : List S57) (hE : POk E) (h : PW E W v xs) (hl : xs.length + 2 * s.toNat ≤ 4096)
  (hT : ∀ W, Below E.W0.heap.size E.W0 W → Calls Tryd.prog 51 #[.int .u64 s, .pointer (some ⟨E.gq, 0, none⟩)] W fun e w' => e = .returned (.int .i64 (tf s)) ∧ Below W.heap.size W w')
  (ih : ∀ u, R u → u < s → ∀ W v xs, PW E W v xs → xs.length + 2 * u.toNat ≤ 4096 → Calls Tryd.prog 68 #[.int .u64 u, .pointer (some ⟨E.go, 0, none⟩), .pointer (some ⟨E.gs, 0, none⟩), .pointer (some ⟨E.ga, 0, none⟩), .pointer (some ⟨E.gt, 0, none⟩)] W (APost E tf u xs)) :
  Calls Tryd.prog 68 #[.int .u64 s, .pointer (some ⟨E.go, 0, none⟩), .pointer (some ⟨E.gs, 0, none⟩), .pointer (some ⟨E.ga, 0, none⟩), .pointer (some ⟨E.gt, 0, none⟩)] W (APost E tf s xs) := by
 have HW := Aside0.mk h
 have HE := Aside0.mk hE
 have HH := Aside0.mk H
 have HR := Aside0.mk hR
 have HS := Aside0.mk (H.set s hR).1
 have HS1 := Aside0.mk (H.set s hR).2
 have HP := Aside0.mk hp
 have HT := Aside0.mk hT
 have IH := Aside0.mk ih
 have HL := Aside0.mk hl
 have c1 : (pcount s == 1) = false := by simp [hp]
 obtain ⟨t0, t1, t2, t3, t4, t5⟩ := H.test s hR hp
 obtain ⟨tk, htk⟩ : ∃ tk : Nat, tf s = tk := ⟨(tf s).toNat, by omega⟩
 obtain ⟨x, hx⟩ : ∃ x, rd E.l3 (tk : Int) = x := ⟨_, rfl⟩
 rw [htk, hx] at t2 t3 t4 t5
 have hparts := split_parts (H.set s hR).1 t2 t3
 have hadd := bSub_add (H.set s hR).1 t2
 obtain ⟨ad, e1, hcx⟩ := Kd.at_int hE.r3 (tk : Int) (by omega) (by omega)
 simp only [Int.toNat_natCast] at hcx
 rw [hx] at hcx
 obtain ⟨sa, hsa⟩ : ∃ sa, Go.bits .and .u64 s x = sa := ⟨_, rfl⟩
 obtain ⟨sb, hsb⟩ : ∃ sb, Go.bits .andNot .u64 s x = sb := ⟨_, rfl⟩
 have HSA := Aside0.mk (show bAnd s x = sa from hsa)
 have HSB := Aside0.mk (show bSub s x = sb from hsb)
 rw [HSA.out, HSB.out] at hparts hadd
 rw [HSA.out] at t5
 rw [HSB.out] at t4
 have HPA := Aside0.mk hparts
 have HAD := Aside0.mk hadd
 have HRA := Aside0.mk t5
 have HRB := Aside0.mk t4
 have HTK := Aside0.mk htk
 have HX := Aside0.mk hx
 have HCX := Aside0.mk hcx
 have E1 := Aside0.mk e1
 have htl : (tk : Int) < E.l3.length := by omega
 have htl' : tk < E.l3.length := by omega
 have hm3 := Kd.C_max hE.r3
 obtain ⟨A, c, rfl⟩ := Kd.R_slice h.rw
 have hcz : W.cell? ⟨E.go, 0, none⟩ = some (.slice A xs.length c) := (blk_cell h.bo 0).trans rfl
 have hcs : W.cell? ⟨E.gs, 0, none⟩ = some (.func (.func 51) #[] #[.pointer (some ⟨E.gq, 0, none⟩)]) := by rw [← hF]; exact (blk_cell h.bs 0).trans rfl
 have hT' := hT
 rw [htk] at hT'
 have HT := Aside0.mk hT'
 clear h H hR hp hT hT' ih hl t0 t1 t2 t3 t4 t5 htk hx hparts hadd hcx e1
 go_enter Tryd.func68, Tryd.ntmps68
 go_upto_region 6 with (first | (go_at_call 69; refine (ones_n _ (u64_id HS.out) _).mono ?_; rintro e w' ⟨rfl, rfl⟩) | (go_at_call 51; refine (HT.out _ HW.out.bl).mono ?_; rintro e w1 ⟨rfl, hb⟩; have HW1 := Aside0.mk (HW.out.below hb); clear hb))
 clear hcz
 have hcz : w1.cell? ⟨E.go, 0, none⟩ = some (.slice A xs.length c) := (blk_cell HW1.out.bo 0).trans rfl
 obtain ⟨x1, hx1⟩ : ∃ x1, x1 = xs ++ [(⟨tk, 0, 0, 0⟩ : S57)] := ⟨_, rfl⟩
 have hlen1 : x1.length = xs.length + 1 := by rw [hx1]; simp
 have HX1 := Aside0.mk hx1
 have HLEN1 := Aside0.mk hlen1
 clear hlen1
 go_upto_region 7 with (at_builtin; go_loud (refine Kd.R_append k57 (w0 := E.W0) E.W0.heap.size rfl (.tmp 26) (.tmp 29) 27 57 (.agg #[(.int .i64 0), (.int .i64 0), (.int .i64 0), (.int .i64 0)]) 32 rfl Tryd.underlying27 info57t rfl (by decide) (by omega) (.slice A xs.length c) xs (⟨tk, 0, 0, 0⟩ : S57) [.int .i64 tk, .int .i64 0, .int .i64 0, .int .i64 0] (fun _ => True) (fun _ => False) rfl rfl ?aP (fun _ hk => hk.elim) (fun _ _ => trivial) ?aO ?aB ?aS ?aL ?_); go_loud (case aP => exact k57_mkM _ _ _ _); go_loud (case aO => exact HW1.out.rw); go_loud (case aB => exact HW1.out.bl); go_loud (case aS => exact HW1.out.bl.size); go_loud (case aL => have h1 := HL.out; omega); intro v1 w2 ho hb hg hat; obtain ⟨A1, n1, rfl⟩ := Kd.R_slice ho; rw [← hx1] at ho; rw [← hx1]; have HPW := Aside0.mk (PW.put HE.out HW1.out ho hb hg); have e1 := blk_grown HW1.out.bo hg (Kd.R_ne HW1.out.rw HW1.out.bo (by decide)); clear hcz; have hcz1 : w2.cell? ⟨E.go, 0, none⟩ = some (.slice A xs.length c) := (blk_cell e1 0).trans rfl; have hfz1 := blk_frozen e1 0; clear ho hb hg hat e1 hx1)
 clear hcz1 hfz1
 generalize (w2.setCell ⟨E.go, 0, none⟩ (.slice A1 x1.length n1)) = w3 at HPW ⊢
 have hS := adds_mk51 HE.out HPW.out E1.out HCX.out
 have HLB := Aside0.mk (show x1.length + 2 * sb.toNat ≤ 4096 by have h1 := HL.out; have h2 := HLEN1.out; have h3 := HPA.out; have h4 := HAD.out; omega)
 have HDW := Aside0.mk (HPW.out.below (below_drew (Below.refl _ _)))
 go_region_held3 (fun w' => w'.cell? ⟨E.ga, 0, none⟩ = some (.func (.func 68) #[] #[.pointer (some ⟨E.go, 0, none⟩), .pointer (some ⟨E.gs, 0, none⟩), .pointer (some ⟨E.ga, 0, none⟩), .pointer (some ⟨E.gt, 0, none⟩)]) ∧ w'.cell? ⟨E.gt, 3, none⟩ = some (.slice (some ad) E.l3.length E.c3) ∧ w'.cell? (ad.add tk) = some (.int .u64 x)) (first | exact hS | exact adds_mk51 HE.out HDW.out E1.out HCX.out | exact adds_mk51 HE.out HP9.out E1.out HCX.out)
  ((go_at_call 68; (with_reducible refine (IH.out sb ?side1 ?side2 _ (.slice A1 x1.length n1) x1 ?side3 ?side4).mono ?_); (case side1 => exact HRB.out); (case side2 => exact HPA.out.2.2); (case side3 => exact HDW.out); (case side4 => exact HLB.out); rintro e w9 ⟨v9, rfl, hp9⟩; have HP9 := Aside0.mk hp9; clear hp9))
 obtain ⟨zs, hzs⟩ : ∃ zs, zs = treeB tf E.l3 sb x1.length := ⟨_, rfl⟩
 rw [← hzs] at HP9
 have HZS := Aside0.mk hzs
 have hzl : zs.length + 1 ≤ 2 * sb.toNat := by rw [hzs]; exact treeB_len HH.out sb.toNat sb x1.length HRB.out (Nat.le_refl _)
 obtain ⟨x2, hx2⟩ : ∃ x2, x2 = x1 ++ zs := ⟨_, rfl⟩
 rw [← hx2] at HP9
 have HX2 := Aside0.mk hx2
 have HLEN2 := Aside0.mk (show x2.length = x1.length + zs.length by rw [hx2]; simp)
 have HLA := Aside0.mk (show x2.length + 2 * sa.toNat ≤ 4096 by have h1 := HL.out; have h2 := HLEN1.out; have h3 := HPA.out; have h4 := HAD.out; have h5 := HLEN2.out; omega)
 have HZL := Aside0.mk hzl
 clear hzs hx2 hzl
 obtain ⟨A2, n2, rfl⟩ := Kd.R_slice HP9.out.rw
 go_wp2
 clear hS
 have hS := adds_mk51 HE.out HP9.out E1.out HCX.out
 have HDV := Aside0.mk (HP9.out.below (below_drew (Below.refl _ _)))
 go_region_held3 (fun w' => w'.cell? ⟨E.ga, 0, none⟩ = some (.func (.func 68) #[] #[.pointer (some ⟨E.go, 0, none⟩), .pointer (some ⟨E.gs, 0, none⟩), .pointer (some ⟨E.ga, 0, none⟩), .pointer (some ⟨E.gt, 0, none⟩)]) ∧ w'.cell? ⟨E.gt, 3, none⟩ = some (.slice (some ad) E.l3.length E.c3) ∧ w'.cell? (ad.add tk) = some (.int .u64 x)) (first | exact hS | exact adds_mk51 HE.out HDV.out E1.out HCX.out | exact adds_mk51 HE.out HP10.out E1.out HCX.out)
  ((go_at_call 68; (with_reducible refine (IH.out sa ?side1 ?side2 _ (.slice A2 x2.length n2) x2 ?side3 ?side4).mono ?_); (case side1 => exact HRA.out); (case side2 => exact HPA.out.1.2); (case side3 => exact HDV.out); (case side4 => exact HLA.out); rintro e w10 ⟨v10, rfl, hp10⟩; have HP10 := Aside0.mk hp10; clear hp10))
 obtain ⟨os, hos⟩ : ∃ os, os = treeB tf E.l3 sa x2.length := ⟨_, rfl⟩
 rw [← hos] at HP10
 have HOS := Aside0.mk hos
 obtain ⟨x3, hx3⟩ : ∃ x3, x3 = x2 ++ os := ⟨_, rfl⟩
 rw [← hx3] at HP10
 have HX3 := Aside0.mk hx3
 have hl3 : xs.length < x3.length := by have h1 := HLEN1.out; have h2 := HLEN2.out; rw [hx3]; simp; omega
 have HL3 := Aside0.mk hl3
 obtain ⟨g, n3, rfl, hgb, hgl, cells, hgc⟩ := Kd.R_form HP10.out.rw (by omega)
 have hget : x3.getD xs.length z57 = (⟨tk, 0, 0, 0⟩ : S57) := by
  rw [hx3, HX2.out, HX1.out]; simp [List.getD_eq_getElem?_getD, List.append_assoc]
 obtain ⟨⟨hc2, hc3, hf2, hf3⟩, hRN, hGN⟩ := node_put HP10.out.rw hl3 (⟨tk, 0, 0, 0⟩ : S57) hget (x1.length : Nat) (x2.length : Nat)
 have hfin : x3.set xs.length ⟨tk, 0, ((x1.length : Nat) : Int), ((x2.length : Nat) : Int)⟩ = xs ++ treeB tf E.l3 s xs.length := by
  have h1 := HLEN1.out
  have h2 := HLEN2.out
  rw [treeB_two HH.out s xs.length HR.out HP.out, HTK.out, HX.out, HSA.out, HSB.out, show xs.length + 1 = x1.length by omega, ← HZS.out, show x1.length + zs.length = x2.length by omega, ← hos, hx3, HX2.out, HX1.out]
  simp [List.append_assoc]
 rw [hfin] at hRN
 have HPN := Aside0.mk (PW.node HE.out HP10.out (g := g) rfl hRN hGN)
 have HRN := Aside0.mk hRN
 have HGN := Aside0.mk hGN
 have hcz : w10.cell? ⟨E.go, 0, none⟩ = some (.slice (some ⟨g, 0, none⟩) x3.length n3) := (blk_cell HP10.out.bo 0).trans rfl
 have hgo : E.go ≠ g := fun e => by have := HP10.out.bo; rw [e, hgc] at this; cases this
 have hli : (0 : Int) ≤ (xs.length : Int) := by omega
 have hli3 : (xs.length : Int) < (x3.length : Int) := by omega
 clear hos hx3 hS hRN hGN hget hfin
 go_wp2
 go_region_held3 (fun w' => w'.cell? ⟨E.go, 0, none⟩ = some (.slice (some ⟨g, 0, none⟩) x3.length n3)) (first | exact hcz | exact keepGo hcz hgo | exact keepGo2 hcz hgo)
  (fail)
 go_wp2
 go_ret
 exact ⟨_, rfl, HPN.out.below (below_drew (Below.refl _ _))⟩
theorem add_all51 (E : PEnv) (tf : Int → Int) (R : Int → Prop) (H : Runs tf E.l3 R) (hF : E.F = 51) (hE : POk E)
  (hT : ∀ W, Below E.W0.heap.size E.W0 W → ∀ s, R s → pcount s ≠ 1 → Calls Tryd.prog 51 #[.int .u64 s, .pointer (some ⟨E.gq, 0, none⟩)] W fun e w' => e = .returned (.int .i64 (tf s)) ∧ Below W.heap.size W w') (d : Nat) :
  ∀ u, R u → u.toNat ≤ d → ∀ W v xs, PW E W v xs → xs.length + 2 * u.toNat ≤ 4096 → Calls Tryd.prog 68 #[.int .u64 u, .pointer (some ⟨E.go, 0, none⟩), .pointer (some ⟨E.gs, 0, none⟩), .pointer (some ⟨E.ga, 0, none⟩), .pointer (some ⟨E.gt, 0, none⟩)] W (APost E tf u xs) := by
 induction d with
 | zero => intro u h1 h2; have h3 := H.set u h1; omega
 | succ d ih =>
  intro u h1 h2 W v xs h hl
  have h3 := H.set u h1
  by_cases hp : pcount u = 1
  ·exact add_one E tf u h3.1 h3.2 hp W v xs hE h (by omega)
  ·exact add_step51 E tf R H hF u h1 hp W v xs hE h hl (fun W hb => hT W hb u h1 hp) (fun q q1 q2 W v xs hq => by
    have h4 := H.set q q1
    exact ih q q1 (by omega) W v xs hq)
set_option maxHeartbeats 8000000 in
set_option maxRecDepth 100000 in
theorem plan51 (A0 : Option Addr) (c0 : Nat) (l0 : List Int) (A1 : Option Addr) (c1 : Nat) (l1 : List (List Int)) (A2 : Option Addr) (c2 : Nat) (l2 : List Int) (A3 : Option Addr) (c3 : Nat) (l3 : List Int) (al : Int) (gq : Nat) (tf : Int → Int) (R : Int → Prop) (W : World)
  (r3 : Kd.C (Kd.int .u64) W A3 l3.length l3) (n3 : l3.length ≤ c3) (hTab : Tab W) (H : Runs tf l3 R) (hR : R al)
  (hT : ∀ W', Below W.heap.size W W' → ∀ s, R s → pcount s ≠ 1 → Calls Tryd.prog 51 #[.int .u64 s, .pointer (some ⟨gq, 0, none⟩)] W' fun e w' => e = .returned (.int .i64 (tf s)) ∧ Below W'.heap.size W' w') :
  Calls Tryd.prog 50 #[.agg #[.slice A0 l0.length c0, .slice A1 l1.length c1, .slice A2 l2.length c2, .slice A3 l3.length c3, .int .u64 al], .func (.func 51) #[] #[.pointer (some ⟨gq, 0, none⟩)]] W (PPost (treeB tf l3 al 0) W) := by
 have hE : POk ⟨W, W.heap.size + 1 + 1, W.heap.size + 1, W.heap.size + 1 + 1 + 1, W.heap.size, gq, A0, c0, l0, A1, c1, l1, A2, c2, l2, A3, c3, l3, al, 51⟩ := ⟨r3, n3, (by show W.heap.size ≤ W.heap.size + 1 + 1; omega), hTab⟩
 have hal := H.set al hR
 have hal2 : 2 * al.toNat ≤ 4096 := by have h1 := hal.1; unfold SetB at h1; omega
 have hA := add_all51 ⟨W, W.heap.size + 1 + 1, W.heap.size + 1, W.heap.size + 1 + 1 + 1, W.heap.size, gq, A0, c0, l0, A1, c1, l1, A2, c2, l2, A3, c3, l3, al, 51⟩ tf R H rfl hE hT al.toNat al hR (Nat.le_refl _) _ _ [] (PW.start ⟨W, W.heap.size + 1 + 1, W.heap.size + 1, W.heap.size + 1 + 1 + 1, W.heap.size, gq, A0, c0, l0, A1, c1, l1, A2, c2, l2, A3, c3, l3, al, 51⟩ rfl rfl rfl rfl) (by simpa using hal2)
 have HA := Aside0.mk (hA.mono (R' := AllPost (treeB tf l3 al 0) W) (fun e w' h => all_post h))
 clear hA
 clear r3 hTab H hR hT hE hal hal2
 go_enter Tryd.func50, Tryd.ntmps50
 go_wp2_with (go_at_call 68; refine (HA.out).mono ?_; rintro e w9 ⟨v9, rfl, hp0, hp1, hp2⟩; have HP9 := Aside0.mk (And.intro hp1 hp2); have hcz : w9.cell? ⟨W.heap.size + 1 + 1, 0, none⟩ = some v9 := (blk_cell hp0 0).trans rfl; clear hp0 hp1 hp2)
 go_ret
 exact ⟨_, rfl, HP9.out.1, HP9.out.2⟩
end Go.Proofs.YtekmiepdodaidaaDoor.X
end

section
/- tests.Greedy, by hand. -/
set_option linter.unusedVariables false
set_option linter.unusedSimpArgs false
namespace Go.Proofs.YtekmiepdodaidaaDoor.X
open Go.RowKit Go.Proofs.YtekmiepdodaidaaDoorW.PrintWords Go.Proofs.YtekmiepdodaidaaDoorW.PrintLast Go.Proofs.YtekmiepdodaidaaDoorW.PrintMore

section
variable {A0 : Option Addr} {c0 : Nat} {a : List Int} {A1 : Option Addr} {c1 : Nat} {b : List (List Int)} {A2 : Option Addr} {c2 : Nat} {c : List Int} {w : World}
def GrNone (er : Int) (w : World) (e : Ending) (w' : World) : Prop := e = .returned (.tuple #[.slice none 0 0, .int .i64 er]) ∧ Below w.heap.size w w'
set_option maxHeartbeats 4000000 in
set_option maxRecDepth 100000 in
theorem greedy_bad (h : CaseAt w A0 c0 a A1 c1 b A2 c2 c) (hc : caseB a b c = false) : Calls Tryd.prog 26 #[.agg #[.slice A0 a.length c0, .slice A1 b.length c1, .slice A2 c.length c2]] w (GrNone 2 w) := by
 have H := Aside0.mk h
 have HC := Aside0.mk hc
 have HB := Aside0.mk (Below.refl w.heap.size w)
 clear h hc
 go_enter Tryd.func26, Tryd.ntmps26
 go_wp2_with (go_at_call 45; refine (trial_bad (H.out.below ((Below.refl _ _).alloc (Nat.le_refl _) _)) HC.out).mono ?_; rintro e w5 ⟨A3, c3, rfl, hb⟩; have HB5 := Aside0.mk (below_step (below_alloc HB.out _) hb); clear hb)
 go_ret2
 exact ⟨rfl, below_alloc HB5.out _⟩
set_option maxHeartbeats 4000000 in
set_option maxRecDepth 100000 in
theorem greedy_alike (h : CaseAt w A0 c0 a A1 c1 b A2 c2 c) (hc : caseB a b c = true) (hal : alikeL (onesOf b) a.length ≠ []) : Calls Tryd.prog 26 #[.agg #[.slice A0 a.length c0, .slice A1 b.length c1, .slice A2 c.length c2]] w (GrNone 6 w) := by
 have H := Aside0.mk h
 have HC := Aside0.mk hc
 have HI := Aside0.mk (case_is hc)
 have HB := Aside0.mk (Below.refl w.heap.size w)
 obtain ⟨n, hn⟩ : ∃ n, n = (alikeL (onesOf b) a.length).length := ⟨_, rfl⟩
 have HN := Aside0.mk hn
 have hpos : (0 : Int) < (n : Int) := by have := List.length_pos_iff.2 hal; omega
 clear h hc hal hn
 go_enter Tryd.func26, Tryd.ntmps26
 go_wp2_with (first | (go_at_call 45; refine (trial_good (H.out.below ((Below.refl _ _).alloc (Nat.le_refl _) _)) HC.out).mono ?_; rintro e w5 ⟨A3, c3, rfl, hr3, hb⟩; have HR3 := Aside0.mk hr3; have HB5 := Aside0.mk (below_step (below_alloc HB.out _) hb); clear hr3 hb) | (go_at_call 49; refine (alike_n (H.out.below (below_alloc HB5.out _)) HI.out A3 c3 (onesOf b) _ (Kd.C_alloc HR3.out.1 _) HR3.out.2).mono ?_; rintro e w6 ⟨A4, c4, rfl, hb⟩; have HB6 := Aside0.mk (below_step (below_alloc HB5.out _) hb); rw [← HN.out]; clear hb))
 go_ret2
 exact ⟨rfl, HB6.out⟩
def GrGood (l : List S57) (w : World) (e : Ending) (w' : World) : Prop := ∃ v, e = .returned (.tuple #[v, .int .i64 0]) ∧ Kd.R k57 57 w' w.heap.size (fun _ => True) v l ∧ Below w.heap.size w w'
set_option maxHeartbeats 8000000 in
set_option maxRecDepth 100000 in
theorem greedy_good (h : CaseAt w A0 c0 a A1 c1 b A2 c2 c) (hc : caseB a b c = true) (hal : alikeL (onesOf b) a.length = []) (hT : Tab w) :
  Calls Tryd.prog 26 #[.agg #[.slice A0 a.length c0, .slice A1 b.length c1, .slice A2 c.length c2]] w (GrGood (treeB (greedyT a c (onesOf b)) (onesOf b) (allOf a) 0) w) := by
 have H := Aside0.mk h
 have HC := Aside0.mk hc
 have HI := Aside0.mk (case_is hc)
 have HT := Aside0.mk hT
 have HD := Aside0.mk (Differ.mk (case_is hc) hal)
 have HB := Aside0.mk (Below.refl w.heap.size w)
 have HSET := Aside0.mk (onesOf_set HI.out.a10 HI.out.rows)
 have hpos : (alikeL (onesOf b) a.length).length = 0 := by rw [hal]; rfl
 have HP := Aside0.mk hpos
 have hall : ((2 ^ a.length : Nat) : Int) - 1 = allOf a := rfl
 have HALL := Aside0.mk hall
 clear h hc hal hT hpos hall
 go_enter Tryd.func26, Tryd.ntmps26
 go_upto_region 6 with (first | (go_at_call 45; refine (trial_good (H.out.below ((Below.refl _ _).alloc (Nat.le_refl _) _)) HC.out).mono ?_; rintro e w5 ⟨A3, c3, rfl, hr3, hb⟩; rw [HALL.out]; have HR3 := Aside0.mk hr3; have HB5 := Aside0.mk (below_step (below_alloc HB.out _) hb); clear hr3 hb) | (go_at_call 49; refine (alike_n (H.out.below (below_alloc HB5.out _)) HI.out A3 c3 (onesOf b) _ (Kd.C_alloc HR3.out.1 _) HR3.out.2).mono ?_; rintro e w6 ⟨A4, c4, rfl, hb⟩; have HB6 := Aside0.mk (below_step (below_alloc HB5.out _) hb); have HR6 := Aside0.mk (Kd.C_below (Kd.C_alloc HR3.out.1 _) hb); have HX6 := Aside0.mk ((hb.block _ (by rw [size_alloc']; omega)).trans (blk_new w5 _)); rw [HP.out]; clear hb))
 have HC6 := Aside0.mk (H.out.below HB6.out)
 have HN3 := Aside0.mk HR3.out.2
 have HTA := Aside0.mk (show TrialAt w6 w5.heap.size A0 c0 a A1 c1 b A2 c2 c A3 c3 (allOf a) from ⟨HX6.out, HC6.out, HR6.out, HN3.out⟩)
 have HGR := Aside0.mk (greedy_ok HD.out)
 have HP50 := Aside0.mk (fun (w9 : World) (hb : Below w6.heap.size w6 w9) => plan51 A0 c0 a A1 c1 b A2 c2 c A3 c3 (onesOf b) (allOf a) w5.heap.size (greedyT a c (onesOf b)) (SetN a.length) w9 (Kd.C_below HR6.out hb) HN3.out ((HT.out.below HB6.out).below hb) HGR.out.runs (all_in HD.out)
  (fun W' hb2 s hR hp => greedy51 HI.out HSET.out ((HTA.out.below hb).below hb2) s hR.1))
 have hz0 : w6.cell? ⟨w5.heap.size, 0, none⟩ = some (.slice A0 a.length c0) := (blk_cell HX6.out 0).trans rfl
 have hz1 : w6.cell? ⟨w5.heap.size, 1, none⟩ = some (.slice A1 b.length c1) := (blk_cell HX6.out 1).trans rfl
 have hz2 : w6.cell? ⟨w5.heap.size, 2, none⟩ = some (.slice A2 c.length c2) := (blk_cell HX6.out 2).trans rfl
 have hz3 : w6.cell? ⟨w5.heap.size, 3, none⟩ = some (.slice A3 (onesOf b).length c3) := (blk_cell HX6.out 3).trans rfl
 have hz4 : w6.cell? ⟨w5.heap.size, 4, none⟩ = some (.int .u64 (allOf a)) := (blk_cell HX6.out 4).trans rfl
 go_wp2_with (go_at_call 50; (with_reducible refine (HP50.out _ (Below.refl _ _)).mono ?_); rintro e w9 ⟨v9, rfl, hr9, hb9⟩; have HR9 := Aside0.mk hr9; have HB9 := Aside0.mk hb9; clear hr9 hb9)
 go_ret2
 exact ⟨v9, rfl, Kd.R_lower HR9.out (below_size HB6.out), below_step HB6.out HB9.out⟩
end
def tests_Greedy.f (a : List Int) (b : List (List Int)) (c : List Int) : Option (List S57 × Int) :=
 some (if caseB a b c = true then (if alikeL (onesOf b) a.length = [] then (treeB (greedyT a c (onesOf b)) (onesOf b) (allOf a) 0, 0) else ([], 6)) else ([], 2))
theorem tests_Greedy.calls (A0 : Option Addr) (c0 : Nat) (a : List Int) (A1 : Option Addr) (c1 : Nat) (b : List (List Int)) (A2 : Option Addr) (c2 : Nat) (c : List Int) (r1 : List S57) (r2 : Int) (w : World)
  (h0 : Kd.C (Kd.int .i64) w A0 a.length a) (n0 : a.length ≤ c0) (h1 : Kd.C (Kd.slice 3 (Kd.int .i64)) w A1 b.length b) (n1 : b.length ≤ c1) (h2 : Kd.C (Kd.int .i64) w A2 c.length c) (n2 : c.length ≤ c2) (h : tests_Greedy.f a b c = some (r1, r2)) (hT : Tab w) :
  Calls Tryd.prog 26 #[.agg #[.slice A0 a.length c0, .slice A1 b.length c1, .slice A2 c.length c2]] w fun e w' => ∃ v0_ : Value, e = .returned (.tuple #[v0_, .int .i64 r2]) ∧ Kd.R k57 57 w' w.heap.size (fun _ => True) v0_ r1 ∧ Below w.heap.size w w' := by
 have H : CaseAt w A0 c0 a A1 c1 b A2 c2 c := ⟨h0, n0, h1, n1, h2, n2⟩
 have hr := Option.some.inj h
 by_cases hc : caseB a b c = true
 ·rw [if_pos hc] at hr
  by_cases hal : alikeL (onesOf b) a.length = []
  ·rw [if_pos hal] at hr
   obtain ⟨rfl, rfl⟩ := Prod.mk.inj hr
   exact greedy_good H hc hal hT
  ·rw [if_neg hal] at hr
   obtain ⟨rfl, rfl⟩ := Prod.mk.inj hr
   exact (greedy_alike H hc hal).mono fun e w' ⟨h1, h2⟩ => ⟨_, h1, Kd.R_nil _ _ _ _ _, h2⟩
 ·rw [if_neg hc] at hr
  obtain ⟨rfl, rfl⟩ := Prod.mk.inj hr
  exact (greedy_bad H (by simpa using hc)).mono fun e w' ⟨h1, h2⟩ => ⟨_, h1, Kd.R_nil _ _ _ _ _, h2⟩
end Go.Proofs.YtekmiepdodaidaaDoor.X
end

section
namespace Go.Proofs.YtekmiepdodaidaaDoor.X
open Go.RowKit Go.Proofs.YtekmiepdodaidaaDoorW.PrintWords Go.Proofs.YtekmiepdodaidaaDoorW.PrintLast Go.Proofs.YtekmiepdodaidaaDoorW.PrintMore
attribute [local go_sem] max2_int min2_int max_two min_two max_three min_three max_four min_four   -- for this text's walks alone
set_option linter.unusedVariables false
set_option linter.unusedSimpArgs false

theorem eqA57 (d : Nat) (w : World) (x0 y0 : Int) (x1 y1 : Int) (x2 y2 : Int) (x3 y3 : Int) :
  (Op.equalIn (d + 2) 57 (.agg #[.int .i64 x0, .int .i64 x1, .int .i64 x2, .int .i64 x3]) (.agg #[.int .i64 y0, .int .i64 y1, .int .i64 y2, .int .i64 y3])).run Tryd.prog w = .ok (x0 == y0 && (x1 == y1 && (x2 == y2 && (x3 == y3)))) w := by
 refine eqA_of Tryd.underlying57 (by kernel_rfl) ?_
 refine eqf_cons (by rfl) (by go_simp; rfl) (by go_simp; rfl) (by go_simp) ?_
 refine eqf_cons (by rfl) (by go_simp; rfl) (by go_simp; rfl) (by go_simp) ?_
 refine eqf_cons (by rfl) (by go_simp; rfl) (by go_simp; rfl) (by go_simp) ?_
 exact eqf_last (by rfl) (by go_simp; rfl) (by go_simp; rfl) (by go_simp)
end Go.Proofs.YtekmiepdodaidaaDoor.X
end

section
/- (trial).isPlan, by hand, first part: its closure, and what its map says. -/
set_option linter.unusedVariables false
set_option linter.unusedSimpArgs false
namespace Go.Proofs.YtekmiepdodaidaaDoor.X
open Go.RowKit Go.Proofs.YtekmiepdodaidaaDoorW.PrintWords Go.Proofs.YtekmiepdodaidaaDoorW.PrintLast Go.Proofs.YtekmiepdodaidaaDoorW.PrintMore
open Go.Maps (Keyed)
open Go.MapKept

section
variable {W : World} {bp bu B n : Nat} {g : KMap} {AP : Option Addr} {cp len : Nat}
end
structure UsedAt (plan : List S57) (i : Nat) (g : KMap) : Prop where
 at_ : ∀ j : Nat, j < plan.length → (g (ki (j : Int)) = some (.bool true) ∧ cntK (plan.take i) j = 1) ∨ (g (ki (j : Int)) = none ∧ cntK (plan.take i) j = 0)
 key : ∀ kl, (g kl).isSome = true → ∃ j : Nat, 1 ≤ j ∧ j < plan.length ∧ kl = ki (j : Int)
end Go.Proofs.YtekmiepdodaidaaDoor.X
end

section
/- (trial).isPlan, by hand: are the nodes a plan? -/
set_option linter.unusedVariables false
set_option linter.unusedSimpArgs false
namespace Go.Proofs.YtekmiepdodaidaaDoor.X
open Go.RowKit Go.Proofs.YtekmiepdodaidaaDoorW.PrintWords Go.Proofs.YtekmiepdodaidaaDoorW.PrintLast Go.Proofs.YtekmiepdodaidaaDoorW.PrintMore
attribute [local go_sem high] eqA57
structure PlanAt (TC PC : Array Value) (n nt : Nat) (plan : List S57) (gT gP gU B : Nat) (w w' : World) (i : Nat) : Prop where
 bT : w'.heap[gT]? = some (.cells TC 77 (0, 0))
 bP : w'.heap[gP]? = some (.cells PC 27 (0, 0))
 bU : w'.heap[gU]? = some (.cells #[.map (some B)] 102 (0, 0))
 bel : Below w.heap.size w w'
 used : ∃ g m, MapIs Tryd.prog 3 w' B m g ∧ m ≤ 2 * i ∧ UsedAt plan i g
 ok : ∀ i' : Nat, i' < i → nodeB n nt plan.length i' (rd_T57 plan i') = true
section
variable {TC PC : Array Value} {n nt : Nat} {plan : List S57} {gT gP gU B : Nat} {w wr : World} {i : Nat}
end
section
variable {A0 : Option Addr} {c0 : Nat} {a : List Int} {A1 : Option Addr} {c1 : Nat} {b : List (List Int)} {A2 : Option Addr} {c2 : Nat} {c : List Int} {A3 : Option Addr} {c3 : Nat} {ones : List Int} {al : Int} {A : Option Addr} {cp : Nat} {plan : List S57} {w : World}
end
end Go.Proofs.YtekmiepdodaidaaDoor.X
end

section
/- Layer 7, plain: the program's way, costs, Check and Find. -/
set_option linter.unusedVariables false
namespace Go.Proofs.YtekmiepdodaidaaDoor.X
open Go.RowKit Go.Proofs.YtekmiepdodaidaaDoorW.PrintWords Go.Proofs.YtekmiepdodaidaaDoorW.PrintLast Go.Proofs.YtekmiepdodaidaaDoorW.PrintMore

section
variable {a : List Int} {b : List (List Int)} {c : List Int}
end
def checkR (a : List Int) (b : List (List Int)) (c : List Int) (plan : List S57) : Int × Int × Int :=
 if caseB a b c = true then (if (corrR a b c plan).2.2 = true then ((corrR a b c plan).1, (corrR a b c plan).2.1, 0) else (0, 0, 10)) else (0, 0, 2)
end Go.Proofs.YtekmiepdodaidaaDoor.X
end

section
/- Layer 7, plain: own copies, and the reference's Case. -/
set_option linter.unusedVariables false
namespace Go.Proofs.YtekmiepdodaidaaDoor.X
open Go.RowKit Go.Proofs.YtekmiepdodaidaaDoorW.PrintWords Go.Proofs.YtekmiepdodaidaaDoorW.PrintLast Go.Proofs.YtekmiepdodaidaaDoorW.PrintMore

def cut14 (l : List Int) : List Int := l.take 14
def cutB (b : List (List Int)) : List (List Int) := (b.take 14).map cut14
theorem list_f (l : List Int) : tickinglaw07_list.f l = some (cut14 l) := by
 have hm : mn (l.length : Int) 14 = ((min l.length 14 : Nat) : Int) := by unfold mn; split <;> omega
 have e : l.take (min l.length 14) = l.take 14 := by
  by_cases h : l.length ≤ 14
  ·rw [List.take_of_length_le (show l.length ≤ min l.length 14 by omega), List.take_of_length_le h]
  ·rw [show min l.length 14 = 14 by omega]
 unfold tickinglaw07_list.f cut14
 rw [hm, if_pos (by omega), if_pos (by omega), Int.toNat_natCast, e, if_pos (by rw [List.length_take]; simp; omega), List.nil_append]
theorem own_l0 (a : List Int) (b : List (List Int)) (c : List Int) (x y : List Int) (m : Nat) : ∀ (i : Nat) (acc : List (List Int)), i + m = min b.length 14 → acc.length = i →
  Ev (fun k => tickinglaw07_own.l0 k (i : Int) a b c x acc y) (x, acc ++ ((b.take 14).drop i).map cut14, y) := by
 induction m with
 | zero =>
  intro i acc hi ha
  refine Ev.step (f := fun _ => some _) (fun k => ?_) (Ev.now _)
  simp only [tickinglaw07_own.l0]
  have hd : (b.take 14).drop i = [] := List.drop_eq_nil_of_le (by rw [List.length_take]; omega)
  rw [hd]
  by_cases h : (i : Int) < (b.length : Int)
  ·rw [if_pos h, if_neg (by omega)]; simp
  ·rw [if_neg h]; simp
 | succ m ih =>
  intro i acc hi ha
  have hib : i < b.length := by omega
  have hlt : i < (b.take 14).length := by rw [List.length_take]; omega
  have hd : (b.take 14).drop i = (b.take 14)[i] :: (b.take 14).drop (i + 1) := List.drop_eq_getElem_cons hlt
  have hg : (b.take 14)[i] = b[i] := List.getElem_take
  have h2 := ih (i + 1) (acc ++ [cut14 b[i]]) (by omega) (by simp [ha])
  have e : (acc ++ [cut14 b[i]]) ++ ((b.take 14).drop (i + 1)).map cut14 = acc ++ ((b.take 14).drop i).map cut14 := by rw [hd, hg, List.map_cons, List.append_assoc]; rfl
  rw [e] at h2
  refine Ev.step (fun k => ?_) h2
  show tickinglaw07_own.l0 (k + 1) (i : Int) a b c x acc y = _
  simp only [tickinglaw07_own.l0]
  rw [if_pos (by omega), if_pos (by omega), if_pos (by omega), rd_L1_at b i hib, list_f]
  simp only [Option.bind_some]
  rw [if_pos (by omega), w1 i (by omega)]
theorem own_ev (a : List Int) (b : List (List Int)) (c : List Int) : Ev (fun k => tickinglaw07_own.f k a b c) (cut14 a, cutB b, cut14 c) := by
 unfold tickinglaw07_own.f
 rw [list_f, list_f]
 simp only [Option.bind_some]
 have := own_l0 a b c (cut14 a) (cut14 c) (min b.length 14) 0 [] (by omega) rfl
 simpa [cutB] using this
section
variable (a : List Int) (b : List (List Int)) (c : List Int)
end
end Go.Proofs.YtekmiepdodaidaaDoor.X
end

section
/- Layer 7, plain: trees of tests: none is better than what Best and Worst find. -/
set_option linter.unusedVariables false
namespace Go.Proofs.YtekmiepdodaidaaDoor.X
open Go.RowKit Go.Proofs.YtekmiepdodaidaaDoorW.PrintWords Go.Proofs.YtekmiepdodaidaaDoorW.PrintLast Go.Proofs.YtekmiepdodaidaaDoorW.PrintMore

inductive DT where
 | leaf (f : Nat) : DT
 | node (t : Nat) (z o : DT) : DT
/-- Where fault f comes to. -/
def DT.ends (ones : List Int) : DT → Nat → Nat
 | .leaf g, _ => g
 | .node t z o, f => if memB (rd ones (t : Int)) f = true then o.ends ones f else z.ends ones f
/-- What its way costs. -/
def DT.cost (ones c : List Int) : DT → Nat → Int
 | .leaf _, _ => 0
 | .node t z o, f => rd c (t : Int) + (if memB (rd ones (t : Int)) f = true then o.cost ones c f else z.cost ones c f)
theorem DT.ends_node (ones : List Int) (t : Nat) (z o : DT) (f : Nat) : (DT.node t z o).ends ones f = if memB (rd ones (t : Int)) f = true then o.ends ones f else z.ends ones f := rfl
theorem DT.cost_node (ones c : List Int) (t : Nat) (z o : DT) (f : Nat) : (DT.node t z o).cost ones c f = rd c (t : Int) + (if memB (rd ones (t : Int)) f = true then o.cost ones c f else z.cost ones c f) := rfl
theorem low_ar {k x y W M : Int} (h : M ≤ k + mx x y) (hx : x ≤ W - k) (hy : y ≤ W - k) : M ≤ W := by unfold mx at h; split at h <;> omega
theorem low_as {k C W : Int} (h : k + C ≤ W) : C ≤ W - k := by omega
theorem low_at {k C W : Int} (h : k + C ≤ W) (hk : 1 ≤ k) : C ≤ W := by omega
theorem low_au {k C W : Int} (h : C ≤ W - k) (h0 : 0 ≤ C) : 0 ≤ W - k := by omega
/-- Its tests are tests. -/
def DT.ok (nt : Nat) : DT → Prop
 | .leaf _ => True
 | .node t z o => t < nt ∧ z.ok nt ∧ o.ok nt
theorem DT.cost_nonneg {ones c : List Int} {nt : Nat} (hc : ∀ t : Nat, t < nt → 1 ≤ rd c (t : Int)) : ∀ (T : DT) (f : Nat), T.ok nt → 0 ≤ T.cost ones c f
 | .leaf _, _, _ => Int.le_refl _
 | .node t z o, f, h => by
  obtain ⟨h1, h2, h3⟩ := h
  have i1 := DT.cost_nonneg (ones := ones) hc z f h2
  have i2 := DT.cost_nonneg (ones := ones) hc o f h3
  have := hc t h1
  unfold DT.cost
  split <;> omega
theorem pickB_le {c : Int → Int → Int} {s : Int} : ∀ (l : List Int) (k : Nat) (b : Int × Int), (b.1 = -1 ∨ 0 ≤ b.1) → (0 ≤ b.1 → (pickB c s k l b).2 ≤ b.2) ∧ (∀ j x, l[j]? = some x → splitB s x = true → (pickB c s k l b).2 ≤ c ((k + j : Nat) : Int) x)
 | [], k, b, hb => ⟨fun _ => Int.le_refl _, fun j x h => by simp at h⟩
 | y :: ys, k, b, hb => by
  have ek : ((k : Int) + 1) = ((k + 1 : Nat) : Int) := by omega
  rw [pickB, ek]
  by_cases hy : splitB s y = true
  ·rw [if_pos hy]
   by_cases ht : b.1 < 0 ∨ c (k : Int) y < b.2
   ·rw [if_pos ht]
    obtain ⟨i1, i2⟩ := pickB_le (c := c) (s := s) ys (k + 1) ((k : Int), c (k : Int) y) (.inr (by simp))
    have i1' := i1 (by simp)
    refine ⟨fun h => by rcases ht with h' | h'; omega; exact Int.le_trans i1' (by simp; omega), fun j x hj hx => ?_⟩
    cases j with
    | zero => simp at hj; subst hj; exact i1'
    | succ j => have := i2 j x (by simpa using hj) hx; rwa [show k + 1 + j = k + (j + 1) by omega] at this
   ·rw [if_neg ht]
    obtain ⟨i1, i2⟩ := pickB_le (c := c) (s := s) ys (k + 1) b hb
    refine ⟨i1, fun j x hj hx => ?_⟩
    cases j with
    | zero =>
     simp at hj; subst hj
     have := i1 (by rcases hb with h | h; exact absurd (.inl (by omega)) ht; exact h)
     have h2 : ¬ c (k : Int) y < b.2 := fun h => ht (.inr h)
     exact Int.le_trans this (by simp; omega)
    | succ j => have := i2 j x (by simpa using hj) hx; rwa [show k + 1 + j = k + (j + 1) by omega] at this
  ·rw [if_neg hy]
   obtain ⟨i1, i2⟩ := pickB_le (c := c) (s := s) ys (k + 1) b hb
   refine ⟨i1, fun j x hj hx => ?_⟩
   cases j with
   | zero => simp at hj; subst hj; exact absurd hx hy
   | succ j => have := i2 j x (by simpa using hj) hx; rwa [show k + 1 + j = k + (j + 1) by omega] at this
section
variable {a : List Int} {b : List (List Int)} {c : List Int}
/-- No test is better than the best. -/
theorem cN_le (D : Differ a b c) (mf : Int → Int → Int → Int → Int) (s : Int) (hs : SetN a.length s) (hp : pcount s ≠ 1) (t : Nat) (ht : t < b.length) (hx : splitB s (rd (onesOf b) (t : Int)) = true) :
  cN mf b s ≤ mf (t : Int) s (cN mf b (bSub s (rd (onesOf b) (t : Int)))) (cN mf b (bAnd s (rd (onesOf b) (t : Int)))) := by
 have e0 : cN mf b s = (chs mf (onesOf b) s).2 := by unfold cN cstB; rw [if_neg hp]
 have hl : t < (onesOf b).length := by rw [onesOf_len]; exact ht
 have hr : rd (onesOf b) (t : Int) = (onesOf b)[t] := by simp [rd, List.getD_eq_getElem?_getD, List.getElem?_eq_getElem hl]
 rw [hr] at hx ⊢
 have := (pickB_le (c := fun k x => mf k s (cstB (chs mf (onesOf b)) (bSub s x)) (cstB (chs mf (onesOf b)) (bAnd s x))) (s := s) (onesOf b) 0 (-1, 0) (.inl rfl)).2 t _ (List.getElem?_eq_getElem hl) hx
 rw [Nat.zero_add, show ((0 : Nat) : Int) = 0 from rfl] at this
 rw [e0, chs_eq mf (onesOf b) D.set s hs.1]
 exact this
theorem set_parts_of (D : Differ a b c) {s : Int} (hs : SetN a.length s) {t : Nat} (ht : t < b.length) (hx : splitB s (rd (onesOf b) (t : Int)) = true) : SetN a.length (bSub s (rd (onesOf b) (t : Int))) ∧ SetN a.length (bAnd s (rd (onesOf b) (t : Int))) := by
 have hl : t < (onesOf b).length := by rw [onesOf_len]; exact ht
 have hm : rd (onesOf b) (t : Int) ∈ onesOf b := by simp only [rd, Int.toNat_natCast, List.getD_eq_getElem?_getD, List.getElem?_eq_getElem hl, Option.getD_some]; exact List.getElem_mem hl
 obtain ⟨⟨p1, p2⟩, q1, q2⟩ := split_parts hs.1 (D.set _ hm) hx
 have hsb := hs.1
 have hlt := hs.2.2
 unfold SetB at hsb
 exact ⟨⟨by unfold SetB; omega, q1, by omega⟩, ⟨by unfold SetB; omega, p1, by omega⟩⟩
theorem ones_set (D : Differ a b c) {t : Nat} (ht : t < b.length) : SetB (rd (onesOf b) (t : Int)) := by
 have hl : t < (onesOf b).length := by rw [onesOf_len]; exact ht
 refine D.set _ ?_
 simp only [rd, Int.toNat_natCast, List.getD_eq_getElem?_getD, List.getElem?_eq_getElem hl, Option.getD_some]; exact List.getElem_mem hl
/-- A test that does not divide a set: all go one way. -/
theorem one_way (D : Differ a b c) {s : Int} (hs : SetN a.length s) {t : Nat} (ht : t < b.length) (hx : ¬ splitB s (rd (onesOf b) (t : Int)) = true) : (∀ f, f < a.length → memB s f = true → memB (rd (onesOf b) (t : Int)) f = true) ∨ (∀ f, f < a.length → memB s f = true → memB (rd (onesOf b) (t : Int)) f = false) := by
 have hxs := ones_set D ht
 have hadd := bSub_add hs.1 hxs
 have ha := D.is.a10
 unfold splitB at hx
 simp only [Bool.and_eq_true, Bool.not_eq_true', beq_eq_false_iff_ne, ne_eq, not_and, Decidable.not_not] at hx
 by_cases h0 : bAnd s (rd (onesOf b) (t : Int)) = 0
 ·right
  intro f hf hm
  have := mem_and hs.1 hxs f
  rw [h0, hm, Bool.true_and] at this
  rw [← this]; unfold memB; simp
 ·left
  have h1 := hx h0
  intro f hf hm
  have := mem_sub hs.1 hxs f (by omega)
  rw [h1, hm, Bool.true_and] at this
  have e : memB 0 f = false := by unfold memB; simp
  rw [e] at this
  simpa using this.symm
def meanT (a c ones : List Int) (s : Int) (T : DT) : Int := sumR (fun f => if memB s f = true then rd a (f : Int) * T.cost ones c f else 0) a.length
theorem sumR_nonneg {g : Nat → Int} : ∀ (n : Nat), (∀ f, f < n → 0 ≤ g f) → 0 ≤ sumR g n
 | 0, _ => Int.le_refl _
 | n + 1, h => by
  have := sumR_nonneg n (fun f hf => h f (by omega))
  have := h n (Nat.lt_succ_self _)
  simp only [sumR]; omega
theorem sumR_le {g h : Nat → Int} : ∀ (n : Nat), (∀ f, f < n → g f ≤ h f) → sumR g n ≤ sumR h n
 | 0, _ => Int.le_refl _
 | n + 1, hh => by
  have := sumR_le n (fun f hf => hh f (by omega))
  have := hh n (Nat.lt_succ_self _)
  simp only [sumR]; omega
theorem w_in (D : Differ a b c) (f : Nat) (hf : f < a.length) : 1 ≤ rd a (f : Int) ∧ rd a (f : Int) ≤ 1000 := by
 rw [rd_at a f hf]; exact D.is.wa _ (List.getElem_mem hf)
theorem one_set (D : Differ a b c) {s : Int} (hs : SetN a.length s) {g : Nat} (h : ∀ f, f < a.length → memB s f = true → g = f) : pcount s = 1 := by
 have hsb := hs.1
 have ha := D.is.a10
 unfold SetB at hsb
 refine Classical.byContradiction fun hp => ?_
 rw [pcount_set hs.1] at hp
 have hc := cnt_pos s.toNat (by omega) (by have := hs.2.1; omega)
 obtain ⟨x, hx, y, hy, hxy, tx, ty⟩ := two_bits s.toNat (by omega) (by have := hs.2.1; omega) (by omega)
 have lt : ∀ q, s.toNat.testBit q = true → q < a.length := by
  intro q hq
  rcases Nat.lt_or_ge q a.length with h | h
  ·exact h
  ·have h3 : s.toNat < 2 ^ a.length := by have := hs.2.2; omega
   rw [Nat.testBit_lt_two_pow (Nat.lt_of_lt_of_le h3 (Nat.pow_le_pow_right (by omega) h))] at hq
   cases hq
 have h1 := h x (lt x tx) tx
 have h2 := h y (lt y ty) ty
 omega
/-- No tree has a smaller mean. -/
theorem low_mean (D : Differ a b c) : ∀ (T : DT) (s : Int), SetN a.length s → T.ok b.length → (∀ f, f < a.length → memB s f = true → T.ends (onesOf b) f = f) → cN (mfMean a b c) b s ≤ meanT a c (onesOf b) s T := by
 have hcost : ∀ t : Nat, t < b.length → 1 ≤ rd c (t : Int) := fun t ht => (cost_at D.is t ht).1
 have nn : ∀ (T : DT) (s : Int), T.ok b.length → 0 ≤ meanT a c (onesOf b) s T := fun T s hT => sumR_nonneg _ (fun f hf => by
  split
  ·exact Int.mul_nonneg (by have := w_in D f hf; omega) (DT.cost_nonneg hcost T f hT)
  ·exact Int.le_refl _)
 intro T
 induction T with
 | leaf g =>
  intro s hs hT h
  have hp := one_set D hs (g := g) h
  have e : cN (mfMean a b c) b s = 0 := by unfold cN cstB; rw [if_pos hp]
  rw [e]; exact nn _ _ hT
 | node t z o iz io =>
  intro s hs hT h
  by_cases hp : pcount s = 1
  ·have e : cN (mfMean a b c) b s = 0 := by unfold cN cstB; rw [if_pos hp]
   rw [e]; exact nn _ _ hT
  ·obtain ⟨ht, hz, ho⟩ := hT
   by_cases hx : splitB s (rd (onesOf b) (t : Int)) = true
   ·obtain ⟨p1, p2⟩ := set_parts_of D hs ht hx
    have hxs := ones_set D ht
    have ha := D.is.a10
    have i1 := iz _ p1 hz (fun f hf hm => by
     rw [mem_sub hs.1 hxs f (by omega), Bool.and_eq_true] at hm
     have := h f hf hm.1
     rw [DT.ends_node] at this
     rwa [if_neg (by intro e; rw [e] at hm; exact absurd hm.2 (by decide))] at this)
    have i2 := io _ p2 ho (fun f hf hm => by
     rw [mem_and hs.1 hxs f, Bool.and_eq_true] at hm
     have := h f hf hm.1
     rw [DT.ends_node] at this
     rwa [if_pos hm.2] at this)
    have hle := cN_le D (mfMean a b c) s hs hp t ht hx
    have B1 : 0 ≤ cN (mfMean a b c) b _ ∧ cN (mfMean a b c) b _ ≤ 1024000000 := cst_box D.set (mean_ok D.is) _ p1.1 p1.2.1
    have B2 : 0 ≤ cN (mfMean a b c) b _ ∧ cN (mfMean a b c) b _ ≤ 1024000000 := cst_box D.set (mean_ok D.is) _ p2.1 p2.2.1
    have hsb := hs.1
    unfold SetB at hsb
    obtain ⟨v, hv⟩ : ∃ v : Nat, s = v := ⟨s.toNat, (Int.toNat_of_nonneg hsb.1).symm⟩
    have hm := mfMean_eq D.is t ht v (by omega) _ _ ⟨B1.1, Int.le_trans B1.2 (by decide)⟩ ⟨B2.1, Int.le_trans B2.2 (by decide)⟩
    have hsum : meanT a c (onesOf b) s (.node t z o) = rd c (t : Int) * wOf a s.toNat + meanT a c (onesOf b) (bSub s (rd (onesOf b) (t : Int))) z + meanT a c (onesOf b) (bAnd s (rd (onesOf b) (t : Int))) o := by
     unfold meanT
     rw [wOf_sum, ← sumR_mul, ← sumR_add, ← sumR_add]
     refine sumR_congr _ (fun f hf => ?_)
     have m1 := mem_and hs.1 hxs f
     have m2 := mem_sub hs.1 hxs f (by omega)
     show _ = rd c (t : Int) * (if memB s f = true then rd a (f : Int) else 0) + _ + _
     cases hmm : memB s f
     ·rw [hmm, Bool.false_and] at m1 m2
      rw [m1, m2]; simp
     ·rw [hmm, Bool.true_and] at m1 m2
      rw [m1, m2]
      rw [DT.cost_node]
      cases hq : memB (rd (onesOf b) (t : Int)) f
      ·simp only [if_true, Bool.not_false]
       rw [if_neg (by decide), if_neg (by decide), Int.mul_add, Int.add_zero, Int.mul_comm (rd a (f : Int)) (rd c (t : Int))]
      ·simp only [if_true, Bool.not_true]
       rw [if_neg (by decide), Int.mul_add, Int.add_zero, Int.mul_comm (rd a (f : Int)) (rd c (t : Int))]
    rw [hsum]
    rw [hv] at hle ⊢
    rw [hv] at hm i1 i2
    rw [Int.toNat_natCast]
    rw [hm] at hle
    exact Int.le_trans hle (Int.add_le_add (Int.add_le_add_left i1 _) i2)
   ·-- all go one way
    have key : ∀ (Q : DT), Q.ok b.length → (∀ f, f < a.length → memB s f = true → (DT.node t z o).cost (onesOf b) c f = rd c (t : Int) + Q.cost (onesOf b) c f) → meanT a c (onesOf b) s Q ≤ meanT a c (onesOf b) s (.node t z o) := by
     intro Q hQ hq
     refine sumR_le _ (fun f hf => ?_)
     by_cases hm : memB s f = true
     ·rw [if_pos hm, if_pos hm, hq f hf hm]
      exact Int.mul_le_mul_of_nonneg_left (by have := hcost t ht; omega) (by have := w_in D f hf; omega)
     ·rw [if_neg hm, if_neg hm]; exact Int.le_refl _
    rcases one_way D hs ht hx with hall | hall
    ·have i2 := io s hs ho (fun f hf hm => by
      have := h f hf hm
      rw [DT.ends_node] at this
      rwa [if_pos (hall f hf hm)] at this)
     exact Int.le_trans i2 (key o ho (fun f hf hm => by show rd c (t : Int) + (if memB (rd (onesOf b) (t : Int)) f = true then o.cost (onesOf b) c f else z.cost (onesOf b) c f) = _; rw [if_pos (hall f hf hm)]))
    ·have i1 := iz s hs hz (fun f hf hm => by
      have := h f hf hm
      rw [DT.ends_node] at this
      rwa [if_neg (by rw [hall f hf hm]; decide)] at this)
     exact Int.le_trans i1 (key z hz (fun f hf hm => by show rd c (t : Int) + (if memB (rd (onesOf b) (t : Int)) f = true then o.cost (onesOf b) c f else z.cost (onesOf b) c f) = _; rw [if_neg (by rw [hall f hf hm]; decide)]))
/-- No tree has a smaller worst. -/
theorem low_worst (D : Differ a b c) : ∀ (T : DT) (s : Int) (W : Int), SetN a.length s → T.ok b.length → 0 ≤ W → (∀ f, f < a.length → memB s f = true → T.ends (onesOf b) f = f ∧ T.cost (onesOf b) c f ≤ W) → cN (mfWorst a b c) b s ≤ W := by
 have hcost : ∀ t : Nat, t < b.length → 1 ≤ rd c (t : Int) := fun t ht => (cost_at D.is t ht).1
 intro T
 induction T with
 | leaf g =>
  intro s W hs hT hW h
  have hp := one_set D hs (g := g) (fun f hf hm => (h f hf hm).1)
  have e : cN (mfWorst a b c) b s = 0 := by unfold cN cstB; rw [if_pos hp]
  rw [e]; exact hW
 | node t z o iz io =>
  intro s W hs hT hW h
  by_cases hp : pcount s = 1
  ·have e : cN (mfWorst a b c) b s = 0 := by unfold cN cstB; rw [if_pos hp]
   rw [e]; exact hW
  ·obtain ⟨ht, hz, ho⟩ := hT
   by_cases hx : splitB s (rd (onesOf b) (t : Int)) = true
   ·obtain ⟨p1, p2⟩ := set_parts_of D hs ht hx
    have hxs := ones_set D ht
    have ha := D.is.a10
    have hsub : ∀ f, f < a.length → memB (bSub s (rd (onesOf b) (t : Int))) f = true → z.ends (onesOf b) f = f ∧ z.cost (onesOf b) c f ≤ W - rd c (t : Int) := by
     intro f hf hm
     rw [mem_sub hs.1 hxs f (by omega), Bool.and_eq_true] at hm
     have h1 := h f hf hm.1
     have hn : ¬ memB (rd (onesOf b) (t : Int)) f = true := by intro e; rw [e] at hm; exact absurd hm.2 (by decide)
     rw [DT.ends_node, DT.cost_node] at h1
     rw [if_neg hn, if_neg hn] at h1
     exact ⟨h1.1, low_as h1.2⟩
    have hand : ∀ f, f < a.length → memB (bAnd s (rd (onesOf b) (t : Int))) f = true → o.ends (onesOf b) f = f ∧ o.cost (onesOf b) c f ≤ W - rd c (t : Int) := by
     intro f hf hm
     rw [mem_and hs.1 hxs f, Bool.and_eq_true] at hm
     have h1 := h f hf hm.1
     rw [DT.ends_node, DT.cost_node] at h1
     rw [if_pos hm.2, if_pos hm.2] at h1
     exact ⟨h1.1, low_as h1.2⟩
    have hW2 : 0 ≤ W - rd c (t : Int) := by
     obtain ⟨f, hf, hbit⟩ := bit_lt p1.1 p1.2.1 p1.2.2
     exact low_au (hsub f hf hbit).2 (DT.cost_nonneg (ones := onesOf b) hcost z f hz)
    have i1 := iz _ _ p1 hz hW2 hsub
    have i2 := io _ _ p2 ho hW2 hand
    have hle := cN_le D (mfWorst a b c) s hs hp t ht hx
    have B1 : 0 ≤ cN (mfWorst a b c) b _ ∧ cN (mfWorst a b c) b _ ≤ 1024000000 := cst_box D.set (worst_ok D.is) _ p1.1 p1.2.1
    have B2 : 0 ≤ cN (mfWorst a b c) b _ ∧ cN (mfWorst a b c) b _ ≤ 1024000000 := cst_box D.set (worst_ok D.is) _ p2.1 p2.2.1
    rw [mfWorst_eq D.is t ht s _ _ ⟨B1.1, Int.le_trans B1.2 (by decide)⟩ ⟨B2.1, Int.le_trans B2.2 (by decide)⟩] at hle
    exact low_ar hle i1 i2
   ·rcases one_way D hs ht hx with hall | hall
    ·refine io s W hs ho hW (fun f hf hm => ?_)
     have h1 := h f hf hm
     rw [DT.ends_node, DT.cost_node] at h1
     rw [if_pos (hall f hf hm), if_pos (hall f hf hm)] at h1
     exact ⟨h1.1, low_at h1.2 (hcost t ht)⟩
    ·refine iz s W hs hz hW (fun f hf hm => ?_)
     have h1 := h f hf hm
     have hn : ¬ memB (rd (onesOf b) (t : Int)) f = true := by rw [hall f hf hm]; decide
     rw [DT.ends_node, DT.cost_node] at h1
     rw [if_neg hn, if_neg hn] at h1
     exact ⟨h1.1, low_at h1.2 (hcost t ht)⟩
def dtOf (plan : List S57) : Nat → Int → DT
 | 0, _ => .leaf 0
 | d + 1, p => if (rd_T57 plan p).f0 < 0 then .leaf (rd_T57 plan p).f1.toNat else .node (rd_T57 plan p).f0.toNat (dtOf plan d (rd_T57 plan p).f2) (dtOf plan d (rd_T57 plan p).f3)
theorem dt_way (h : CaseIs a b c) {plan : List S57} (H : PlanIs a.length b.length plan) (d : Nat) : ∀ p : Nat, p < plan.length → plan.length ≤ p + d → (dtOf plan d p).ok b.length ∧ ∀ f, f < a.length → ((dtOf plan d p).ends (onesOf b) f : Int) = (wayN b plan (f : Int) d p).2 ∧ (dtOf plan d p).cost (onesOf b) c f = costL c (wayN b plan (f : Int) d p).1 := by
 induction d with
 | zero => intro p hp hd; omega
 | succ d ih =>
  intro p hp hd
  unfold dtOf wayN
  by_cases h0 : (rd_T57 plan (p : Int)).f0 < 0
  ·have hl := node_leaf (H.node p hp) h0
   rw [if_pos h0]
   refine ⟨trivial, fun f hf => ?_⟩
   rw [if_pos h0]
   exact ⟨by show (((rd_T57 plan (p : Int)).f1.toNat : Nat) : Int) = _; omega, rfl⟩
  ·obtain ⟨o1, o2, o3, o4, o5, o6, o7⟩ := node_inner (H.node p hp) h0
   rw [if_neg h0]
   obtain ⟨t, ht⟩ : ∃ t : Nat, (rd_T57 plan (p : Int)).f0 = (t : Int) := ⟨(rd_T57 plan (p : Int)).f0.toNat, by omega⟩
   obtain ⟨z, hz⟩ : ∃ z : Nat, (rd_T57 plan (p : Int)).f2 = (z : Int) := ⟨(rd_T57 plan (p : Int)).f2.toNat, by omega⟩
   obtain ⟨o, ho⟩ : ∃ o : Nat, (rd_T57 plan (p : Int)).f3 = (o : Int) := ⟨(rd_T57 plan (p : Int)).f3.toNat, by omega⟩
   obtain ⟨z1, z2⟩ := ih z (by omega) (by omega)
   obtain ⟨q1, q2⟩ := ih o (by omega) (by omega)
   rw [ht, hz, ho, Int.toNat_natCast]
   refine ⟨⟨by omega, z1, q1⟩, fun f hf => ?_⟩
   rw [if_neg (by omega)]
   have hm := row_mem h t f (by omega) hf
   rw [DT.ends_node, DT.cost_node]
   by_cases hb : memB (rd (onesOf b) (t : Int)) f = true
   ·rw [if_pos hb, if_pos hb, if_pos (hm.2 hb)]
    exact ⟨(q2 f hf).1, by rw [(q2 f hf).2]; rfl⟩
   ·rw [if_neg hb, if_neg hb, if_neg (fun e => hb (hm.1 e))]
    exact ⟨(z2 f hf).1, by rw [(z2 f hf).2]; rfl⟩
/-- A correct plan is a tree that comes to each fault's leaf. -/
theorem corr_dt (D : Differ a b c) {plan : List S57} {m w : Int} (h : corrR a b c plan = (m, w, true)) : ∃ T : DT, T.ok b.length ∧ (∀ f, f < a.length → T.ends (onesOf b) f = f) ∧ meanT a c (onesOf b) (allOf a) T = m ∧ maxR (fun f => T.cost (onesOf b) c f) a.length = w := by
 unfold corrR at h
 split at h
 ·rename_i hp
  rw [Bool.and_eq_true] at hp
  have H := plan_is hp.1
  have hl1 := H.l1
  obtain ⟨k1, k2⟩ := dt_way D.is H plan.length 0 (by omega) (by omega)
  rw [show ((0 : Nat) : Int) = 0 from rfl] at k1 k2
  injection h with h1 h2
  injection h2 with h2 _
  refine ⟨dtOf plan plan.length 0, k1, fun f hf => ?_, ?_, ?_⟩
  ·have e1 := (k2 f hf).1
   have e2 := (allB_iff _ _ _).1 hp.2 f (by omega) (by omega)
   have e3 : (wayP b plan (f : Int)).2 = (f : Int) := by simpa using e2
   unfold wayP at e3
   rw [e3] at e1
   exact Int.ofNat.inj e1
  ·rw [← h1]
   unfold meanT
   refine sumR_congr _ (fun f hf => ?_)
   rw [all_mem, if_pos (decide_eq_true hf), (k2 f hf).2]; rfl
  ·rw [← h2]
   refine maxR_congr _ (fun f hf => ?_)
   rw [(k2 f hf).2]; rfl
 ·injection h with _ h2
  injection h2 with _ h3
  cases h3
/-- No correct plan is better. -/
theorem corr_low (D : Differ a b c) {plan : List S57} {m w : Int} (h : corrR a b c plan = (m, w, true)) : cN (mfMean a b c) b (allOf a) ≤ m ∧ cN (mfWorst a b c) b (allOf a) ≤ w := by
 obtain ⟨T, h1, h2, h3, h4⟩ := corr_dt D h
 refine ⟨by rw [← h3]; exact low_mean D T _ (all_in D) h1 (fun f hf _ => h2 f hf), ?_⟩
 rw [← h4]
 exact low_worst D T _ _ (all_in D) h1 (maxR_nonneg _ _) (fun f hf _ => ⟨h2 f hf, le_maxR (fun f => T.cost (onesOf b) c f) a.length f hf⟩)
end
end Go.Proofs.YtekmiepdodaidaaDoor.X
end

section
/- Layer 7: the program's functions at a case in which all faults differ. -/
set_option linter.unusedVariables false
set_option linter.unusedSimpArgs false
namespace Go.Proofs.YtekmiepdodaidaaDoor.X
open Go.RowKit Go.Proofs.YtekmiepdodaidaaDoorW.PrintWords Go.Proofs.YtekmiepdodaidaaDoorW.PrintLast Go.Proofs.YtekmiepdodaidaaDoorW.PrintMore

def planM (a : List Int) (b : List (List Int)) (c : List Int) : List S57 := treeB (fun s => (chs (mfMean a b c) (onesOf b) s).1) (onesOf b) (allOf a) 0
def planG (a : List Int) (b : List (List Int)) (c : List Int) : List S57 := treeB (greedyT a c (onesOf b)) (onesOf b) (allOf a) 0
def valM (a : List Int) (b : List (List Int)) (c : List Int) : Int := cN (mfMean a b c) b (allOf a)
def valW (a : List Int) (b : List (List Int)) (c : List Int) : Int := cN (mfWorst a b c) b (allOf a)
def coverOf (a : List Int) (b : List (List Int)) : List Int := (coverB (onesOf b) a.length (2 ^ (onesOf b).length)).getD []
theorem boxS7 {W : World} {g : Nat} {x y z : Value} (h : W.heap[g]? = some (.cells #[x, y, z] 25 (0, 0))) : W.cell? ⟨g, 0, none⟩ = some x ∧ W.cell? ⟨g, 1, none⟩ = some y ∧ W.cell? ⟨g, 2, none⟩ = some z :=
 ⟨(blk_cell h 0).trans rfl, (blk_cell h 1).trans rfl, (blk_cell h 2).trans rfl⟩
/-- A list that was made comes back, in a value. -/
def SlPost {α : Type} (d : Kd α) (l : List α) (f : Value → Value) (w : World) (e : Ending) (w' : World) : Prop := ∃ A n, e = .returned (f (.slice A l.length n)) ∧ (l.length ≤ n ∧ d.C w' A l.length l) ∧ Below w.heap.size w w'
theorem sl_post {α : Type} {d : Kd α} {e : Nat} {l : List α} {v : Value} {w w' : World} {f : Value → Value} {base : Nat} {ok : Nat → Prop} (h : d.R e w' base ok v l) (hb : Below w.heap.size w w') : SlPost d l f w (.returned (f v)) w' := by
 obtain ⟨A, n, rfl⟩ := Kd.R_slice h
 exact ⟨A, n, rfl, ⟨(Kd.R_reads' h).2.1, (Kd.R_reads' h).2.2⟩, hb⟩
section
variable {A0 : Option Addr} {c0 : Nat} {a : List Int} {A1 : Option Addr} {c1 : Nat} {b : List (List Int)} {A2 : Option Addr} {c2 : Nat} {c : List Int} {w : World}
theorem best_n (h : CaseAt w A0 c0 a A1 c1 b A2 c2 c) (D : Differ a b c) (hT : Tab w) : Calls Tryd.prog 14 #[.agg #[.slice A0 a.length c0, .slice A1 b.length c1, .slice A2 c.length c2]] w (SlPost k57 (planM a b c) (fun v => .tuple #[v, .int .i64 (valM a b c), .int .i64 0]) w) := by
 refine (tests_Best.calls A0 c0 a A1 c1 b A2 c2 c (planM a b c) (valM a b c) 0 w h.r0 h.n0 h.r1 h.n1 h.r2 h.n2 ?_ hT).mono ?_
 ·unfold tests_Best.f optRes
  rw [if_pos (caseB_of D.is), if_pos D.al]; rfl
 ·rintro e w' ⟨v, rfl, hv, hb⟩
  exact sl_post (f := fun v => .tuple #[v, .int .i64 (valM a b c), .int .i64 0]) hv hb
theorem cover_n (h : CaseAt w A0 c0 a A1 c1 b A2 c2 c) (D : Differ a b c) : Calls Tryd.prog 28 #[.agg #[.slice A0 a.length c0, .slice A1 b.length c1, .slice A2 c.length c2]] w (SlPost (Kd.int .i64) (coverOf a b) (fun v => .tuple #[v, .int .i64 0]) w) := by
 refine (tests_Cover.calls A0 c0 a A1 c1 b A2 c2 c (coverOf a b) 0 w h.r0 h.n0 h.r1 h.n1 h.r2 h.n2 ?_).mono ?_
 ·unfold tests_Cover.f covRes
  rw [if_pos (caseB_of D.is), if_pos D.al]; rfl
 ·rintro e w' ⟨v, rfl, hv, hb⟩
  exact sl_post (f := fun v => .tuple #[v, .int .i64 0]) hv hb
theorem awake_n (w : World) (hT : Tab w) : Calls Tryd.prog 17 #[] w fun e w' => e = .returned (.bool true) ∧ Below w.heap.size w w' := by
 obtain ⟨k, hk⟩ := awake_ev.rounds
 exact tickinglaw07_awake.calls k true w hk hT
/-- A law's case, in a box of its own. -/
structure LawW (w : World) (A0 : Option Addr) (c0 : Nat) (a : List Int) (A1 : Option Addr) (c1 : Nat) (b : List (List Int)) (A2 : Option Addr) (c2 : Nat) (c : List Int) (g : Nat) (w' : World) : Prop where
 bx : w'.heap[g]? = some (.cells #[.slice A0 a.length c0, .slice A1 b.length c1, .slice A2 c.length c2] 25 (0, 0))
 cs : CaseAt w' A0 c0 a A1 c1 b A2 c2 c
 bl : Below w.heap.size w w'
 lt : w.heap.size ≤ g
theorem LawW.below {w : World} {A0 : Option Addr} {c0 : Nat} {a : List Int} {A1 : Option Addr} {c1 : Nat} {b : List (List Int)} {A2 : Option Addr} {c2 : Nat} {c : List Int} {g : Nat} {w' w2 : World} (h : LawW w A0 c0 a A1 c1 b A2 c2 c g w') (hb : Below w'.heap.size w' w2) : LawW w A0 c0 a A1 c1 b A2 c2 c g w2 := ⟨blk_below h.bx hb, h.cs.below hb, below_step h.bl hb, h.lt⟩
theorem LawW.cells {w : World} {A0 : Option Addr} {c0 : Nat} {a : List Int} {A1 : Option Addr} {c1 : Nat} {b : List (List Int)} {A2 : Option Addr} {c2 : Nat} {c : List Int} {g : Nat} {w' : World} (h : LawW w A0 c0 a A1 c1 b A2 c2 c g w') : w'.cell? ⟨g, 0, none⟩ = some (.slice A0 a.length c0) ∧ w'.cell? ⟨g, 1, none⟩ = some (.slice A1 b.length c1) ∧ w'.cell? ⟨g, 2, none⟩ = some (.slice A2 c.length c2) := boxS7 h.bx
/-- A tame case. -/
def TameSl (a : List Int) (b : List (List Int)) (c : List Int) (w : World) (e : Ending) (w' : World) : Prop :=
 ∃ B0 d0 B1 d1 B2 d2, e = .returned (.agg #[.slice B0 (tameW a).length d0, .slice B1 (tameB a b).length d1, .slice B2 (tameC b c).length d2]) ∧ CaseAt w' B0 d0 (tameW a) B1 d1 (tameB a b) B2 d2 (tameC b c) ∧ Below w.heap.size w w'
theorem tame_sl (h : CaseAt w A0 c0 a A1 c1 b A2 c2 c) : Calls Tryd.prog 33 #[.agg #[.slice A0 a.length c0, .slice A1 b.length c1, .slice A2 c.length c2]] w (TameSl a b c w) := by
 refine (tame_n h).mono ?_
 rintro e w' ⟨v0, v1, v2, rfl, h0, h1, h2, hb⟩
 obtain ⟨B0, d0, rfl⟩ := Kd.R_slice h0
 obtain ⟨B1, d1, rfl⟩ := Kd.R_slice h1
 obtain ⟨B2, d2, rfl⟩ := Kd.R_slice h2
 exact ⟨B0, d0, B1, d1, B2, d2, rfl, ⟨(Kd.R_reads' h0).2.2, (Kd.R_reads' h0).2.1, (Kd.R_reads' h1).2.2, (Kd.R_reads' h1).2.1, (Kd.R_reads' h2).2.2, (Kd.R_reads' h2).2.1⟩, hb⟩
end
section
variable {a : List Int} {b : List (List Int)} {c : List Int}
theorem check_tree (D : Differ a b c) {tf : Int → Int} (H : TreeOk a.length b.length tf (onesOf b) (SetN a.length)) : ∃ m w, checkR a b c (treeB tf (onesOf b) (allOf a) 0) = (m, w, 0) ∧ corrR a b c (treeB tf (onesOf b) (allOf a) 0) = (m, w, true) := by
 have e := corr_tree D H
 refine ⟨_, _, ?_, e⟩
 unfold checkR
 rw [if_pos (caseB_of D.is), e, if_pos rfl]
theorem check_M (D : Differ a b c) : ∃ w, checkR a b c (planM a b c) = (valM a b c, w, 0) ∧ valW a b c ≤ w := by
 obtain ⟨m, w, h1, h2⟩ := check_tree D (chs_ok D (mfMean a b c))
 have h3 := corr_tree D (chs_ok D (mfMean a b c))
 rw [h2] at h3
 injection h3 with h3 _
 refine ⟨w, ?_, (corr_low D h2).2⟩
 unfold planM valM
 rw [h1, h3, cN_mean D _ (allOf a) (all_in D) (Nat.le_refl _)]
end
end Go.Proofs.YtekmiepdodaidaaDoor.X
end

section
/- Layer 7: lists that come back as the caller's own; more of the program's functions. -/
set_option linter.unusedVariables false
set_option linter.unusedSimpArgs false
namespace Go.Proofs.YtekmiepdodaidaaDoor.X
open Go.RowKit Go.Proofs.YtekmiepdodaidaaDoorW.PrintWords Go.Proofs.YtekmiepdodaidaaDoorW.PrintLast Go.Proofs.YtekmiepdodaidaaDoorW.PrintMore

def OwPost {α : Type} (d : Kd α) (t : Nat) (l : List α) (f : Value → Value) (w : World) (e : Ending) (w' : World) : Prop := ∃ A n, e = .returned (f (.slice A l.length n)) ∧ d.R t w' w.heap.size (fun _ => True) (.slice A l.length n) l ∧ Below w.heap.size w w'
theorem ow_post {α : Type} {d : Kd α} {t : Nat} {l : List α} {v : Value} {w w' : World} {f : Value → Value} (h : d.R t w' w.heap.size (fun _ => True) v l) (hb : Below w.heap.size w w') : OwPost d t l f w (.returned (f v)) w' := by
 obtain ⟨A, n, rfl⟩ := Kd.R_slice h
 exact ⟨A, n, rfl, h, hb⟩
section
variable {A0 : Option Addr} {c0 : Nat} {a : List Int} {A1 : Option Addr} {c1 : Nat} {b : List (List Int)} {A2 : Option Addr} {c2 : Nat} {c : List Int} {w : World}
theorem best_r (h : CaseAt w A0 c0 a A1 c1 b A2 c2 c) (D : Differ a b c) (hT : Tab w) : Calls Tryd.prog 14 #[.agg #[.slice A0 a.length c0, .slice A1 b.length c1, .slice A2 c.length c2]] w (OwPost k57 57 (planM a b c) (fun v => .tuple #[v, .int .i64 (valM a b c), .int .i64 0]) w) := by
 refine (tests_Best.calls A0 c0 a A1 c1 b A2 c2 c (planM a b c) (valM a b c) 0 w h.r0 h.n0 h.r1 h.n1 h.r2 h.n2 ?_ hT).mono ?_
 ·unfold tests_Best.f optRes
  rw [if_pos (caseB_of D.is), if_pos D.al]; rfl
 ·rintro e w' ⟨v, rfl, hv, hb⟩
  exact ow_post (f := fun v => .tuple #[v, .int .i64 (valM a b c), .int .i64 0]) hv hb
theorem greedy_r (h : CaseAt w A0 c0 a A1 c1 b A2 c2 c) (D : Differ a b c) (hT : Tab w) : Calls Tryd.prog 26 #[.agg #[.slice A0 a.length c0, .slice A1 b.length c1, .slice A2 c.length c2]] w (OwPost k57 57 (planG a b c) (fun v => .tuple #[v, .int .i64 0]) w) := by
 refine (tests_Greedy.calls A0 c0 a A1 c1 b A2 c2 c (planG a b c) 0 w h.r0 h.n0 h.r1 h.n1 h.r2 h.n2 ?_ hT).mono ?_
 ·unfold tests_Greedy.f
  rw [if_pos (caseB_of D.is), if_pos D.al]; rfl
 ·rintro e w' ⟨v, rfl, hv, hb⟩
  exact ow_post (f := fun v => .tuple #[v, .int .i64 0]) hv hb
theorem cover_r (h : CaseAt w A0 c0 a A1 c1 b A2 c2 c) (D : Differ a b c) : Calls Tryd.prog 28 #[.agg #[.slice A0 a.length c0, .slice A1 b.length c1, .slice A2 c.length c2]] w (OwPost (Kd.int .i64) 3 (coverOf a b) (fun v => .tuple #[v, .int .i64 0]) w) := by
 refine (tests_Cover.calls A0 c0 a A1 c1 b A2 c2 c (coverOf a b) 0 w h.r0 h.n0 h.r1 h.n1 h.r2 h.n2 ?_).mono ?_
 ·unfold tests_Cover.f covRes
  rw [if_pos (caseB_of D.is), if_pos D.al]; rfl
 ·rintro e w' ⟨v, rfl, hv, hb⟩
  exact ow_post (f := fun v => .tuple #[v, .int .i64 0]) hv hb
theorem refcover_n (h : CaseAt w A0 c0 a A1 c1 b A2 c2 c) (D : Differ a b c) : Calls Tryd.prog 30 #[.agg #[.slice A0 a.length c0, .slice A1 b.length c1, .slice A2 c.length c2]] w (SlPost (Kd.int .i64) (coverOf a b) (fun v => .tuple #[v, .bool true]) w) := by
 obtain ⟨k, hk⟩ := (rcover_ev D (caseB_of D.is)).rounds
 refine (tickingref07_Cover.calls k A0 c0 a A1 c1 b A2 c2 c (coverOf a b) true w h.r0 h.n0 h.r1 h.n1 h.r2 h.n2 hk).mono ?_
 rintro e w' ⟨v, rfl, hv, hb⟩
 exact sl_post (f := fun v => .tuple #[v, .bool true]) hv hb
theorem refcorr_n (h : CaseAt w A0 c0 a A1 c1 b A2 c2 c) (D : Differ a b c) (A : Option Addr) (n : Nat) (p : List S57) (hp : p.length ≤ n ∧ k57.C w A p.length p) :
  Calls Tryd.prog 20 #[.agg #[.slice A0 a.length c0, .slice A1 b.length c1, .slice A2 c.length c2], .slice A p.length n] w fun e w' => e = .returned (.tuple #[.int .i64 (corrR a b c p).1, .int .i64 (corrR a b c p).2.1, .bool (corrR a b c p).2.2]) ∧ Below w.heap.size w w' := by
 obtain ⟨k, hk⟩ := (rcorr_ev D.is p).rounds
 exact tickingref07_Correct.calls k A0 c0 a A1 c1 b A2 c2 c A n p _ _ _ w h.r0 h.n0 h.r1 h.n1 h.r2 h.n2 hp.2 hp.1 hk
theorem ints_same (A : Option Addr) (n : Nat) (x : List Int) (A' : Option Addr) (n' : Nat) (hx : x.length ≤ n ∧ (Kd.int .i64).C w A x.length x) (hy : x.length ≤ n' ∧ (Kd.int .i64).C w A' x.length x) (hl : x.length < 100000) :
  Calls Tryd.prog 25 #[.slice A x.length n, .slice A' x.length n'] w fun e w' => e = .returned (.bool true) ∧ Drawn0 w w' := by
 obtain ⟨k, hk⟩ := (ints_ev x x hl).rounds
 rw [decide_eq_true rfl] at hk
 exact tickinglaw07_ints.calls k A n x A' n' x true w hx.2 hx.1 hy.2 hy.1 hk
theorem cover_len {a : List Int} {b : List (List Int)} {c : List Int} (D : Differ a b c) : (coverOf a b).length ≤ 12 ∧ AscB 0 b.length (coverOf a b) := by
 obtain ⟨l, h1, h2, _⟩ := cover_has D
 unfold coverOf
 rw [h1]
 have := h2.len (by omega)
 have := D.is.b12
 exact ⟨by show l.length ≤ 12; omega, h2⟩
theorem corr_M {a : List Int} {b : List (List Int)} {c : List Int} (D : Differ a b c) : ∃ w, corrR a b c (planM a b c) = (valM a b c, w, true) := by
 have h3 := corr_tree D (chs_ok D (mfMean a b c))
 refine ⟨worstS a.length c (fun s => (chs (mfMean a b c) (onesOf b) s).1) (onesOf b) (allOf a), ?_⟩
 unfold planM valM
 rw [h3, cN_mean D _ (allOf a) (all_in D) (Nat.le_refl _)]
theorem cut14_id {l : List Int} (h : l.length ≤ 14) : cut14 l = l := List.take_of_length_le h
theorem cutB_id {n : Nat} {b : List (List Int)} (hb : b.length ≤ 14) (hn : n ≤ 14) (h : b.all (rowOkB n) = true) : cutB b = b := by
 unfold cutB
 rw [List.take_of_length_le hb]
 conv => rhs; rw [← List.map_id b]
 refine List.map_congr_left (fun l hl => ?_)
 have h1 := List.all_eq_true.1 h l hl
 unfold rowOkB at h1
 simp only [Bool.and_eq_true, beq_iff_eq] at h1
 exact cut14_id (by omega)
/-- own, at a case. -/
def OwnSl (a : List Int) (b : List (List Int)) (c : List Int) (w : World) (e : Ending) (w' : World) : Prop :=
 ∃ B0 d0 B1 d1 B2 d2, e = .returned (.agg #[.slice B0 a.length d0, .slice B1 b.length d1, .slice B2 c.length d2]) ∧ CaseAt w' B0 d0 a B1 d1 b B2 d2 c ∧ Below w.heap.size w w'
theorem own_n (h : CaseAt w A0 c0 a A1 c1 b A2 c2 c) (hi : CaseIs a b c) : Calls Tryd.prog 13 #[.agg #[.slice A0 a.length c0, .slice A1 b.length c1, .slice A2 c.length c2]] w (OwnSl a b c w) := by
 obtain ⟨k, hk⟩ := (own_ev a b c).rounds
 have h1 := hi.a10
 have h2 := hi.b12
 have h3 := hi.cb
 rw [cut14_id (by omega), cutB_id (n := a.length) (by omega) (by omega) hi.rows, cut14_id (by omega)] at hk
 refine (tickinglaw07_own.calls k A0 c0 a A1 c1 b A2 c2 c a b c w h.r0 h.n0 h.r1 h.n1 h.r2 h.n2 hk).mono ?_
 rintro e w' ⟨v0, v1, v2, rfl, h0, h1, h2, hb⟩
 obtain ⟨B0, d0, rfl⟩ := Kd.R_slice h0
 obtain ⟨B1, d1, rfl⟩ := Kd.S_slice h1
 obtain ⟨B2, d2, rfl⟩ := Kd.R_slice h2
 exact ⟨B0, d0, B1, d1, B2, d2, rfl, ⟨(Kd.R_reads' h0).2.2, (Kd.R_reads' h0).2.1, (Kd.S_reads' h1).2.2, (Kd.S_reads' h1).2.1, (Kd.R_reads' h2).2.2, (Kd.R_reads' h2).2.1⟩, hb⟩
end
/-- What lies above a world's blocks stays, whatever is written below. -/
theorem R_above {α : Type} {d : Kd α} {t : Nat} {w : World} {base : Nat} {ok : Nat → Prop} {v : Value} {xs : List α} (h : d.R t w base ok v xs) {p : Addr} (hp : p.block < base) (u : Value) : d.R t (w.setCell p u) base ok v xs :=
 Kd.R_mono (Kd.R_far (Kd.R_bound h) (fun k hk e => by have := hk.2.1; omega) u) (fun _ hk => hk.1)
/-- A node is written over. -/
theorem node_mark {base : Nat} {W : World} {g n cap : Nat} {ys : List S57} {i : Nat} (h : Kd.R k57 57 W base (fun _ => True) (.slice (some ⟨g, 0, none⟩) n cap) ys) (hi : i < ys.length) (x : S57) :
  (∃ f : S57, W.cell? ⟨g, i * 4, none⟩ = some (.int .i64 f.f0) ∧ W.cell? ⟨g, i * 4 + 1, none⟩ = some (.int .i64 f.f1) ∧ W.cell? ⟨g, i * 4 + 2, none⟩ = some (.int .i64 f.f2) ∧ W.cell? ⟨g, i * 4 + 3, none⟩ = some (.int .i64 f.f3)) ∧
  (W.frozen? ⟨g, i * 4, none⟩ = false ∧ W.frozen? ⟨g, i * 4 + 1, none⟩ = false ∧ W.frozen? ⟨g, i * 4 + 2, none⟩ = false ∧ W.frozen? ⟨g, i * 4 + 3, none⟩ = false) ∧
   Kd.R k57 57 ((((W.setCell ⟨g, i * 4, none⟩ (.int .i64 x.f0)).setCell ⟨g, i * 4 + 1, none⟩ (.int .i64 x.f1)).setCell ⟨g, i * 4 + 2, none⟩ (.int .i64 x.f2)).setCell ⟨g, i * 4 + 3, none⟩ (.int .i64 x.f3)) base (fun _ => True) (.slice (some ⟨g, 0, none⟩) n cap) (ys.set i x) := by
 obtain ⟨hn, _, _⟩ := Kd.R_reads' h
 obtain ⟨c, hcl, hM, hcc, hfz⟩ := Kd.R_elem h z57 (i : Int) (by omega) (by omega)
 simp only [Int.toNat_natCast] at hM hcc hfz
 obtain ⟨f, hf⟩ : ∃ f, ys.getD i z57 = f := ⟨_, rfl⟩
 rw [hf] at hM
 have hc := k57_openM hM
 subst hc
 refine ⟨⟨f, hcc 0 _ rfl, hcc 1 _ rfl, hcc 2 _ rfl, hcc 3 _ rfl⟩, ⟨hfz 0, hfz 1, hfz 2, hfz 3⟩, ?_⟩
 have := (Kd.R_seg (okp := fun _ => False) h (i : Int) (by omega) (by omega) (c := [.int .i64 f.f0, .int .i64 f.f1, .int .i64 f.f2, .int .i64 f.f3]) (seg := [.int .i64 x.f0, .int .i64 x.f1, .int .i64 x.f2, .int .i64 x.f3]) (j := 0) hcl (by simpa only [Int.toNat_natCast] using hcc) (by show 0 + 4 ≤ 4; omega) (x' := x) (k57_mkM _ _ _ x) (fun _ hk => hk.elim)).1
 simp only [Int.toNat_natCast] at this
 exact this
end Go.Proofs.YtekmiepdodaidaaDoor.X
end

section
/- tickinglaw07.TestsOwn, by hand: walked with what is known of the program's answers. -/
set_option linter.unusedVariables false
set_option linter.unusedSimpArgs false
namespace Go.Proofs.YtekmiepdodaidaaDoor.X
open Go.RowKit Go.Proofs.YtekmiepdodaidaaDoorW.PrintWords Go.Proofs.YtekmiepdodaidaaDoorW.PrintLast Go.Proofs.YtekmiepdodaidaaDoorW.PrintMore

section
variable {A0 : Option Addr} {c0 : Nat} {a : List Int} {A1 : Option Addr} {c1 : Nat} {b : List (List Int)} {A2 : Option Addr} {c2 : Nat} {c : List Int} {w : World}
set_option maxHeartbeats 16000000 in
set_option maxRecDepth 100000 in
theorem own_law_n (h : CaseAt w A0 c0 a A1 c1 b A2 c2 c) (hT : Tab w) :
  Calls Tryd.prog 12 #[.agg #[.slice A0 a.length c0, .slice A1 b.length c1, .slice A2 c.length c2]] w fun e w' => e = .returned (.bool true) ∧ Below w.heap.size w w' := by
 have H := Aside0.mk h
 have HT := Aside0.mk hT
 have D := tame_differ a b c
 obtain ⟨ta, hta⟩ : ∃ ta, ta = tameW a := ⟨_, rfl⟩
 obtain ⟨tb, htb⟩ : ∃ tb, tb = tameB a b := ⟨_, rfl⟩
 obtain ⟨tc, htc⟩ : ∃ tc, tc = tameC b c := ⟨_, rfl⟩
 have HTS := Aside0.mk (fun (W : World) (hb : Below w.heap.size w W) => tame_sl (H.out.below hb))
 unfold TameSl at HTS
 rw [← hta, ← htb, ← htc] at HTS D
 have HD := Aside0.mk D
 obtain ⟨wM, eM, lM⟩ := check_M D
 have HB := Aside0.mk (Below.refl w.heap.size w)
 clear h hT hta htb htc D eM lM
 go_enter Tryd.func12, Tryd.ntmps12
 go_upto_region 2 with (go_at_call 33; refine (HTS.out _ (below_alloc (Below.refl _ _) _)).mono ?_; rintro e w1 ⟨B0, d0, B1, d1, B2, d2, rfl, hx, hb⟩; have HX := Aside0.mk hx; have HB1 := Aside0.mk (below_step (below_alloc HB.out _) hb); clear hx hb)
 have HL1 := Aside0.mk (show LawW w B0 d0 ta B1 d1 tb B2 d2 tc w1.heap.size (w1.alloc (.cells #[.slice B0 ta.length d0, .slice B1 tb.length d1, .slice B2 tc.length d2] 25)) from ⟨blk_new _ _, HX.out.below (below_alloc (Below.refl _ _) _), below_alloc HB1.out _, HB1.out.size⟩)
 generalize w1.alloc (.cells #[.slice B0 ta.length d0, .slice B1 tb.length d1, .slice B2 tc.length d2] 25) = w2 at HL1 ⊢
 generalize w1.heap.size = g at HL1 ⊢
 clear HX HB1 w1 HTS
 obtain ⟨z0, z1, z2⟩ := HL1.out.cells
 go_upto_region 3 with (go_at_call 13; refine (own_n HL1.out.cs HD.out.is).mono ?_; rintro e w3 ⟨C0, f0, C1, f1, C2, f2, rfl, hx, hb⟩; have HX := Aside0.mk hx; have HL2 := Aside0.mk (HL1.out.below hb); clear hx hb)
 clear z0 z1 z2
 have HL3 := Aside0.mk (HL2.out.below (below_alloc (Below.refl _ _) (.cells #[.slice C0 ta.length f0, .slice C1 tb.length f1, .slice C2 tc.length f2] 25)))
 have HM3 := Aside0.mk (show LawW w C0 f0 ta C1 f1 tb C2 f2 tc w3.heap.size (w3.alloc (.cells #[.slice C0 ta.length f0, .slice C1 tb.length f1, .slice C2 tc.length f2] 25)) from ⟨blk_new _ _, HX.out.below (below_alloc (Below.refl _ _) _), HL3.out.bl, HL2.out.bl.size⟩)
 have HGG := Aside0.mk (show g < w3.heap.size from blk_lt HL2.out.bx)
 generalize w3.alloc (.cells #[.slice C0 ta.length f0, .slice C1 tb.length f1, .slice C2 tc.length f2] 25) = w4 at HL3 HM3 ⊢
 generalize w3.heap.size = q at HM3 HGG ⊢
 clear HX HL2 w3 HL1 w2
 -- from here on only what lies above w4 is written
 obtain ⟨x, hx⟩ : ∃ x, x = valM ta tb tc := ⟨_, rfl⟩
 have HVX := Aside0.mk hx
 clear hx
 obtain ⟨z0, z1, z2⟩ := HL3.out.cells
 go_upto_region 4 with (go_at_call 14; refine (best_r HL3.out.cs HD.out (HT.out.below HL3.out.bl)).mono ?_; rintro e w5 ⟨AP, nP, rfl, hq, hb⟩; rw [← HVX.out]; have HP := Aside0.mk hq; have HB5 := Aside0.mk hb; have HL5 := Aside0.mk (HL3.out.below hb); clear hq hb)
 clear z0 z1 z2
 obtain ⟨z0, z1, z2⟩ := HL5.out.cells
 go_upto_region 5 with (go_at_call 26; refine (greedy_r HL5.out.cs HD.out (HT.out.below HL5.out.bl)).mono ?_; rintro e w6 ⟨AG, nG, rfl, hq, hb⟩; have HG := Aside0.mk hq; have HP6 := Aside0.mk (Kd.R_below HP.out hb); have HB6 := Aside0.mk (below_step HB5.out hb); have HS56 := Aside0.mk hb.size; have HL6 := Aside0.mk (HL5.out.below hb); clear hq hb)
 clear z0 z1 z2
 obtain ⟨z0, z1, z2⟩ := HL6.out.cells
 go_upto_region 6 with (go_at_call 28; refine (cover_r HL6.out.cs HD.out).mono ?_; rintro e w7 ⟨AC, nC, rfl, hq, hb⟩; have HC := Aside0.mk hq; have HP7 := Aside0.mk (Kd.R_below HP6.out hb); have HG7 := Aside0.mk (Kd.R_below HG.out hb); have HB7 := Aside0.mk (below_step HB6.out hb); clear hq hb)
 clear z0 z1 z2
 have HPLT := Aside0.mk (show ∀ k, (Value.slice AP (planM ta tb tc).length nP).ownBlock = some k → k < w5.heap.size from Kd.R_lt HP.out)
 have HGLT := Aside0.mk (show ∀ k, (Value.slice AG (planG ta tb tc).length nG).ownBlock = some k → k < w6.heap.size from Kd.R_lt HG.out)
 have hpl := (tree_pos (chs_ok HD.out (mfMean ta tb tc)) (allOf ta) 0 (all_in HD.out)).2
 have hgl := (tree_pos (greedy_ok HD.out) (allOf ta) 0 (all_in HD.out)).2
 have hcl := (cover_len HD.out).1
 obtain ⟨pl, hpl'⟩ : ∃ pl, pl = planM ta tb tc := ⟨_, rfl⟩
 obtain ⟨gl, hgl'⟩ : ∃ gl, gl = planG ta tb tc := ⟨_, rfl⟩
 obtain ⟨cl, hcl'⟩ : ∃ cl, cl = coverOf ta tb := ⟨_, rfl⟩
 have HPL := Aside0.mk (show pl.length ≤ 19 by rw [hpl']; exact hpl)
 have HGL := Aside0.mk (show gl.length ≤ 19 by rw [hgl']; exact hgl)
 have HCL := Aside0.mk (show cl.length ≤ 12 by rw [hcl']; exact hcl)
 have HEP := Aside0.mk hpl'
 have HEC := Aside0.mk hcl'
 rw [← hpl'] at HP7 HPLT ⊢
 rw [← hgl'] at HG7 HGLT ⊢
 rw [← hcl'] at HC ⊢
 clear hpl hgl hcl hpl' hgl' hcl' HP HG HP6
 have hp19 := HPL.out
 have hg19 := HGL.out
 have hc9 := HCL.out
 go_wp2
 go_loopg [12] pl.length (fun kq v12 w' => ∃ (i : Nat) (ys : List S57), v12 = .int .i64 i ∧ Aside0 (kq + i = pl.length) ∧ Aside0 (ys.length = pl.length) ∧ Aside0 (Kd.R k57 57 w' w4.heap.size (fun _ => True) (.slice AP pl.length nP) ys) ∧ Aside0 (Kd.R k57 57 w' w5.heap.size (fun _ => True) (.slice AG gl.length nG) gl) ∧ Aside0 (Kd.R (Kd.int .i64) 3 w' w6.heap.size (fun _ => True) (.slice AC cl.length nC) cl) ∧ Aside0 (Below w4.heap.size w4 w'))
 case atStart => exact ⟨0, pl, rfl, ⟨by omega⟩, ⟨rfl⟩, HP7, HG7, HC, HB7⟩
 case round =>
  clear HP7 HG7 HC HB7
  obtain ⟨i, ys, rfl, HKI, HYL, HPY, HGY, HCY, HBY⟩ := hrel
  obtain ⟨k1, rfl⟩ : ∃ k1, k1 = gk := ⟨_, rfl⟩
  by_cases hi : i < pl.length
  ·have hyl := HYL.out
   obtain ⟨gp, np, he, hgb, hgl, cells, hgc⟩ := Kd.R_form HPY.out (by omega)
   injection he with he1 he2 he3
   subst he1
   clear he2 he3 np hgl cells hgc
   have hlt := HPLT.out gp rfl
   have hlt2 : gp < w6.heap.size := Nat.lt_of_lt_of_le hlt HS56.out
   obtain ⟨⟨f, k0, k1', k2, k3⟩, ⟨f0, f1, f2, f3⟩, hR⟩ := node_mark HPY.out (i := i) (by omega) ⟨-9, 0, 0, 0⟩
   have HR := Aside0.mk hR
   clear hR hyl
   go_wp2
   go_roundg (k1 - 1)
   case measure => have := HKI.out; omega
   case rel => exact ⟨i + 1, ys.set i ⟨-9, 0, 0, 0⟩, by go_num, ⟨by have := HKI.out; omega⟩, ⟨by rw [List.length_set]; exact HYL.out⟩, HR, ⟨R_above (R_above (R_above (R_above HGY.out hlt _) hlt _) hlt _) hlt _⟩, ⟨R_above (R_above (R_above (R_above HCY.out hlt2 _) hlt2 _) hlt2 _) hlt2 _⟩, ⟨(((HBY.out.setCell hgb _).setCell hgb _).setCell hgb _).setCell hgb _⟩⟩
  ·obtain rfl : i = pl.length := by have := HKI.out; omega
   clear HKI HYL HPY hi
   go_wp2
   go_loopg [13] gl.length (fun kq v13 w' => ∃ (i : Nat) (ys : List S57), v13 = .int .i64 i ∧ Aside0 (kq + i = gl.length) ∧ Aside0 (ys.length = gl.length) ∧ Aside0 (Kd.R k57 57 w' w5.heap.size (fun _ => True) (.slice AG gl.length nG) ys) ∧ Aside0 (Kd.R (Kd.int .i64) 3 w' w6.heap.size (fun _ => True) (.slice AC cl.length nC) cl) ∧ Aside0 (Below w4.heap.size w4 w'))
   case atStart => exact ⟨0, gl, rfl, ⟨by omega⟩, ⟨rfl⟩, HGY, HCY, HBY⟩
   case round =>
    clear HGY HCY HBY
    obtain ⟨i, ys, rfl, HKI, HYL, HGY, HCY, HBY⟩ := hrel
    obtain ⟨k1, rfl⟩ : ∃ k1, k1 = gk := ⟨_, rfl⟩
    by_cases hi : i < gl.length
    ·have hyl := HYL.out
     obtain ⟨gp, np, he, hgb, hgl, cells, hgc⟩ := Kd.R_form HGY.out (by omega)
     injection he with he1 he2 he3
     subst he1
     clear he2 he3 np hgl cells hgc
     have hlt2 := HGLT.out gp rfl
     have hgb4 : w4.heap.size ≤ gp := Nat.le_trans HB5.out.size hgb
     obtain ⟨⟨f, k0, k1', k2, k3⟩, ⟨f0, f1, f2, f3⟩, hR⟩ := node_mark HGY.out (i := i) (by omega) ⟨-9, 0, 0, 0⟩
     have HR := Aside0.mk hR
     clear hR hyl
     go_wp2
     go_roundg (k1 - 1)
     case measure => have := HKI.out; omega
     case rel => exact ⟨i + 1, ys.set i ⟨-9, 0, 0, 0⟩, by go_num, ⟨by have := HKI.out; omega⟩, ⟨by rw [List.length_set]; exact HYL.out⟩, HR, ⟨R_above (R_above (R_above (R_above HCY.out hlt2 _) hlt2 _) hlt2 _) hlt2 _⟩, ⟨(((HBY.out.setCell hgb4 _).setCell hgb4 _).setCell hgb4 _).setCell hgb4 _⟩⟩
    ·obtain rfl : i = gl.length := by have := HKI.out; omega
     clear HKI HYL HGY hi
     go_wp2
     go_loopg [14] cl.length (fun kq v14 w' => ∃ (i : Nat) (ys : List Int), v14 = .int .i64 i ∧ Aside0 (kq + i = cl.length) ∧ Aside0 (ys.length = cl.length) ∧ Aside0 (Kd.R (Kd.int .i64) 3 w' w6.heap.size (fun _ => True) (.slice AC cl.length nC) ys) ∧ Aside0 (Below w4.heap.size w4 w'))
     case atStart => exact ⟨0, cl, rfl, ⟨by omega⟩, ⟨rfl⟩, HCY, HBY⟩
     case round =>
      clear HCY HBY
      obtain ⟨i, ys, rfl, HKI, HYL, HCY, HBY⟩ := hrel
      obtain ⟨k1, rfl⟩ : ∃ k1, k1 = gk := ⟨_, rfl⟩
      by_cases hi : i < cl.length
      ·have hyl := HYL.out
       obtain ⟨gp, np, he, hgb, hgl, cells, hgc⟩ := Kd.R_form HCY.out (by omega)
       injection he with he1 he2 he3
       subst he1
       clear he2 he3 np hgl cells hgc
       have hgb4 : w4.heap.size ≤ gp := Nat.le_trans HB6.out.size hgb
       have hR := HCY.out
       rw [show (Value.slice (some ⟨gp, 0, none⟩) cl.length nC) = .slice (some ⟨gp, 0, none⟩) ys.length nC from by rw [hyl]] at hR
       obtain ⟨hcw, hfw⟩ := Kd.R_cell (enc := Value.int .i64) (h1 := fun _ => rfl) (0 : Int) hR (i : Int) (by omega) (by omega)
       obtain ⟨x0, hx0⟩ : ∃ x0, rdOf (0 : Int) ys (i : Int) = x0 := ⟨_, rfl⟩
       rw [hx0] at hcw
       have hput := (Kd.R_put (enc := Value.int .i64) (h1 := fun _ => rfl) hR (i : Int) (-9)).1
       simp only [Int.toNat_natCast] at hcw hfw hput
       rw [hyl] at hput
       have HR := Aside0.mk hput
       clear hR hyl hput hx0
       go_wp2
       go_roundg (k1 - 1)
       case measure => have := HKI.out; omega
       case rel => exact ⟨i + 1, ys.set i (-9), by go_num, ⟨by have := HKI.out; omega⟩, ⟨by rw [List.length_set]; exact HYL.out⟩, HR, ⟨HBY.out.setCell (show w4.heap.size ≤ (⟨gp, i, none⟩ : Addr).block from hgb4) _⟩⟩
      ·obtain rfl : i = cl.length := by have := HKI.out; omega
       clear HKI HYL HCY hi
       have HLX := Aside0.mk (HL3.out.below HBY.out)
       have HLY := Aside0.mk (HM3.out.below HBY.out)
       go_upto_region 18 with (fail)
       obtain ⟨z0, z1, z2⟩ := HLX.out.cells
       go_upto_region 19 with (go_at_call 14; refine (best_n HLX.out.cs HD.out (HT.out.below HLX.out.bl)).mono ?_; rintro e w8 ⟨A8, n8, rfl, hq, hb⟩; rw [← HVX.out, ← HEP.out]; rw [← HEP.out] at hq; have HP8 := Aside0.mk hq; have HLX8 := Aside0.mk (HLX.out.below hb); have HLY8 := Aside0.mk (HLY.out.below hb); clear hq hb)
       clear z0 z1 z2
       obtain ⟨z0, z1, z2⟩ := HLX8.out.cells
       go_upto_region 20 with (go_at_call 28; refine (cover_n HLX8.out.cs HD.out).mono ?_; rintro e w9 ⟨A9, n9, rfl, hq, hb⟩; rw [← HEC.out]; rw [← HEC.out] at hq; have HC9 := Aside0.mk hq; have HP9 := Aside0.mk (And.intro HP8.out.1 (Kd.C_below HP8.out.2 hb)); have HLX9 := Aside0.mk (HLX8.out.below hb); have HLY9 := Aside0.mk (HLY8.out.below hb); clear hq hb)
       clear z0 z1 z2
       obtain ⟨z0, z1, z2⟩ := HLY9.out.cells
       go_upto_region 21 with (go_at_call 30; refine (refcover_n HLY9.out.cs HD.out).mono ?_; rintro e wa ⟨Aa, na, rfl, hq, hb⟩; rw [← HEC.out]; rw [← HEC.out] at hq; have HCa := Aside0.mk hq; have HC10 := Aside0.mk (And.intro HC9.out.1 (Kd.C_below HC9.out.2 hb)); have HPa := Aside0.mk (And.intro HP9.out.1 (Kd.C_below HP9.out.2 hb)); have HLXa := Aside0.mk (HLX9.out.below hb); have HLYa := Aside0.mk (HLY9.out.below hb); clear hq hb)
       clear z0 z1 z2
       obtain ⟨z0, z1, z2⟩ := HLXa.out.cells
       obtain ⟨y0, y1, y2⟩ := HLYa.out.cells
       have hla := HD.out.is.a10
       have hlc : tc.length ≤ 12 := by have h1 := HD.out.is.cb; have h2 := HD.out.is.b12; omega
       have HW0 := Aside0.mk (fun (W : World) (hb : Below wa.heap.size wa W) => ints_same (w := W) B0 d0 ta C0 f0 ⟨HLXa.out.cs.n0, Kd.C_below HLXa.out.cs.r0 hb⟩ ⟨HLYa.out.cs.n0, Kd.C_below HLYa.out.cs.r0 hb⟩ (by omega))
       have HW2 := Aside0.mk (fun (W : World) (hb : Below wa.heap.size wa W) => ints_same (w := W) B2 d2 tc C2 f2 ⟨HLXa.out.cs.n2, Kd.C_below HLXa.out.cs.r2 hb⟩ ⟨HLYa.out.cs.n2, Kd.C_below HLYa.out.cs.r2 hb⟩ (by omega))
       go_upto_region 23 with (first | (go_at_call 25; (with_reducible refine (HW0.out _ (Below.refl _ _)).mono ?_); rintro e w' ⟨rfl, ⟨nd1, rfl⟩⟩) | (go_at_call 25; (with_reducible refine (HW2.out _ (pw_below_drewN (Below.refl _ _) _)).mono ?_); rintro e w' ⟨rfl, ⟨nd2, rfl⟩⟩))
       clear z0 z1 z2 y0 y1 y2 HW0 HW2
       have HLXb := Aside0.mk (HLXa.out.below (pw_below_drewN (Below.refl _ _) (nd1 + nd2)))
       have HLYb := Aside0.mk (HLYa.out.below (pw_below_drewN (Below.refl _ _) (nd1 + nd2)))
       have HPb := Aside0.mk (And.intro HPa.out.1 (Kd.C_below HPa.out.2 (pw_below_drewN (Below.refl _ _) (nd1 + nd2))))
       have HC9b := Aside0.mk (And.intro HC10.out.1 (Kd.C_below HC10.out.2 (pw_below_drewN (Below.refl _ _) (nd1 + nd2))))
       have HCab := Aside0.mk (And.intro HCa.out.1 (Kd.C_below HCa.out.2 (pw_below_drewN (Below.refl _ _) (nd1 + nd2))))
       generalize wa.drewN (nd1 + nd2) = wb at HLXb HLYb HPb HC9b HCab ⊢
       have htb12 : tb.length ≤ 12 := HD.out.is.b12
       go_wp2
       go_loopg [22] tb.length (fun kq v22 w' => ∃ t : Nat, v22 = .int .i64 t ∧ Aside0 (kq + t = tb.length) ∧ Aside0 (Below wb.heap.size wb w'))
       case atStart => exact ⟨0, rfl, ⟨by omega⟩, ⟨Below.refl _ _⟩⟩
       case round =>
        obtain ⟨t, rfl, HKT, HBT⟩ := hrel
        obtain ⟨k1, rfl⟩ : ∃ k1, k1 = gk := ⟨_, rfl⟩
        have HX := Aside0.mk (HLXb.out.below HBT.out)
        have HY := Aside0.mk (HLYb.out.below HBT.out)
        by_cases ht : t < tb.length
        ·obtain ⟨ad1, cs1, e1, hcs1, hK1, hcc1⟩ := ReadsRow.get_ HX.out.cs.r1 [] (t : Int) (by omega) (by omega)
         obtain ⟨Ar, cr, rfl, hcr, hCr⟩ := hK1
         obtain ⟨ad2, cs2, e2, hcs2, hK2, hcc2⟩ := ReadsRow.get_ HY.out.cs.r1 [] (t : Int) (by omega) (by omega)
         obtain ⟨As, cs, rfl, hcs, hCs⟩ := hK2
         simp only [Int.toNat_natCast] at hcr hCr hcc1 hcs hCs hcc2
         obtain ⟨row, hrow⟩ : ∃ row, tb.getD t [] = row := ⟨_, rfl⟩
         rw [hrow] at hcr hCr hcc1 hcs hCs hcc2
         have hcell1 := hcc1 0 _ rfl
         have hcell2 := hcc2 0 _ rfl
         simp only [Nat.mul_one, Nat.add_zero, Kd.slice] at hcell1 hcell2
         have hrl : row.length < 100000 := by
          have h1 := (row_at HD.out.is t ht).1
          have h2 : row = tb[t] := by rw [← hrow, List.getD_eq_getElem?_getD, List.getElem?_eq_getElem ht]; rfl
          have h3 := HD.out.is.a10
          rw [h2]; omega
         have HI := Aside0.mk (fun (m : Nat) => (ints_same (w := wr.drewN m) Ar cr row As cs ⟨hcr, Kd.C_drewN hCr _⟩ ⟨hcs, Kd.C_drewN hCs _⟩ hrl).mono (fun e w' ⟨h1, ⟨h2⟩⟩ => And.intro h1 h2))
         clear hcs1 hcs2 hcc1 hcc2 hrow hCr hCs hcr hcs hrl
         cases e1
         cases e2
         obtain ⟨z0, z1, z2⟩ := HX.out.cells
         obtain ⟨y0, y1, y2⟩ := HY.out.cells
         go_upto_region 26 with (fail)
         go_quiet ((go_at_call 25; exact Calls.quiet_of (HI.out _)))
         all_goals
          clear z0 z1 z2 y0 y1 y2
          go_wp2
          go_roundg (k1 - 1)
          case measure => have := HKT.out; omega
          case rel => exact ⟨t + 1, by go_num, ⟨by have := HKT.out; omega⟩, ⟨pw_below_drewN HBT.out _⟩⟩
        ·obtain rfl : t = tb.length := by have := HKT.out; omega
         obtain ⟨z0, z1, z2⟩ := HX.out.cells
         obtain ⟨y0, y1, y2⟩ := HY.out.cells
         obtain ⟨wM, hcorr⟩ := corr_M HD.out
         rw [← HVX.out, ← HEP.out] at hcorr
         have HCORR := Aside0.mk hcorr
         have hc12 : cl.length < 100000 := by have := HCL.out; omega
         have hpc := Aside0.mk (And.intro HPb.out.1 (Kd.C_below HPb.out.2 HBT.out))
         clear hcorr
         go_upto_region 29 with (go_at_call 20; refine (refcorr_n HY.out.cs HD.out A8 n8 pl hpc.out).mono ?_; rw [HCORR.out]; rintro e wc ⟨rfl, hb⟩; dsimp only; have HBc := Aside0.mk hb; clear hb)
         clear z0 z1 z2 y0 y1 y2
         have HIC := Aside0.mk (ints_same (w := wc) A9 n9 cl Aa na ⟨HC9b.out.1, Kd.C_below (Kd.C_below HC9b.out.2 HBT.out) HBc.out⟩ ⟨HCab.out.1, Kd.C_below (Kd.C_below HCab.out.2 HBT.out) HBc.out⟩ hc12)
         have HBL := Aside0.mk (below_step HX.out.bl HBc.out)
         go_wp2_with (first | (go_at_call 25; (with_reducible refine HIC.out.mono ?_); rintro e w' ⟨rfl, ⟨nd3, rfl⟩⟩) | (go_at_call 17; refine (awake_n _ (HT.out.below (pw_below_drewN HBL.out nd3))).mono ?_; rintro e wd ⟨rfl, hb⟩; have HBd := Aside0.mk (below_step (pw_below_drewN HBL.out nd3) hb); clear hb))
         go_ret
         exact ⟨rfl, HBd.out⟩
end
def tickinglaw07_TestsOwn.f (k : Nat) (a : List Int) (b : List (List Int)) (c : List Int) : Option Bool := some true
theorem TestsOwn_ev (a : List Int) (b : List (List Int)) (c : List Int) : Ev (fun k => tickinglaw07_TestsOwn.f k a b c) true := Ev.now _
theorem tickinglaw07_TestsOwn.calls (k : Nat) (A0 : Option Addr) (c0 : Nat) (a : List Int) (A1 : Option Addr) (c1 : Nat) (b : List (List Int)) (A2 : Option Addr) (c2 : Nat) (c : List Int) (r : Bool) (w : World)
  (h0 : Kd.C (Kd.int .i64) w A0 a.length a) (n0 : a.length ≤ c0) (h1 : Kd.C (Kd.slice 3 (Kd.int .i64)) w A1 b.length b) (n1 : b.length ≤ c1) (h2 : Kd.C (Kd.int .i64) w A2 c.length c) (n2 : c.length ≤ c2) (h : tickinglaw07_TestsOwn.f k a b c = some r) (hT : Tab w) :
  Calls Tryd.prog 12 #[.agg #[.slice A0 a.length c0, .slice A1 b.length c1, .slice A2 c.length c2]] w fun e w' => e = .returned (.bool r) ∧ Below w.heap.size w w' := by
 obtain rfl := Option.some.inj h
 exact own_law_n ⟨h0, n0, h1, n1, h2, n2⟩ hT
end Go.Proofs.YtekmiepdodaidaaDoor.X
end
