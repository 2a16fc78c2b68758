/- Texts behind TestsMore, part 20: contracts of the program's functions and the plain words for them. -/
import Derived.Test.YtekmiepdodaidaaDoorTpas
section
/- (trial).plan's closure add, by hand: the step, with the test that function 60 selects; and plan itself. -/
set_option linter.unusedVariables false
set_option linter.unusedSimpArgs false
namespace Go.Proofs.YtekmiepdodaidaaDoor.X
open Go.RowKit Go.Proofs.YtekmiepdodaidaaDoorW.PrintWords Go.Proofs.YtekmiepdodaidaaDoorW.PrintLast Go.Proofs.YtekmiepdodaidaaDoorW.PrintMore

theorem adds_mk60 {E : PEnv} {W : World} {v : Value} {xs : List S57} {ad : Addr} {k : Nat} {x : Int} (hE : POk E) (h : PW E W v xs) (e1 : E.A3 = some ad) (hx : E.W0.cell? (ad.add k) = some (.int .u64 x)) :
  W.cell? ⟨E.ga, 0, none⟩ = some (.func (.func 68) #[] #[.pointer (some ⟨E.go, 0, none⟩), .pointer (some ⟨E.gs, 0, none⟩), .pointer (some ⟨E.ga, 0, none⟩), .pointer (some ⟨E.gt, 0, none⟩)]) ∧ W.cell? ⟨E.gt, 3, none⟩ = some (.slice (some ad) E.l3.length E.c3) ∧ W.cell? (ad.add k) = some (.int .u64 x) :=
 ⟨(blk_cell h.ba 0).trans rfl, by rw [← e1]; exact (blk_cell h.bt 3).trans rfl, pw_cell_below h.bl hx⟩
set_option maxHeartbeats 8000000 in
set_option maxRecDepth 100000 in
theorem add_step60 (E : PEnv) (tf : Int → Int) (R : Int → Prop) (H : Runs tf E.l3 R) (hF : E.F = 60) (s : Int) (hR : R s) (hp : pcount s ≠ 1) (W : World) (v : Value) (xs : List S57) (hE : POk E) (h : PW E W v xs) (hl : xs.length + 2 * s.toNat ≤ 4096)
  (hT : ∀ W, Below E.W0.heap.size E.W0 W → Calls Tryd.prog 60 #[.int .u64 s, .pointer (some ⟨E.gq, 0, none⟩)] W fun e w' => e = .returned (.int .i64 (tf s)) ∧ Below W.heap.size W w')
  (ih : ∀ u, R u → u < s → ∀ W v xs, PW E W v xs → xs.length + 2 * u.toNat ≤ 4096 → Calls Tryd.prog 68 #[.int .u64 u, .pointer (some ⟨E.go, 0, none⟩), .pointer (some ⟨E.gs, 0, none⟩), .pointer (some ⟨E.ga, 0, none⟩), .pointer (some ⟨E.gt, 0, none⟩)] W (APost E tf u xs)) :
  Calls Tryd.prog 68 #[.int .u64 s, .pointer (some ⟨E.go, 0, none⟩), .pointer (some ⟨E.gs, 0, none⟩), .pointer (some ⟨E.ga, 0, none⟩), .pointer (some ⟨E.gt, 0, none⟩)] W (APost E tf s xs) := by
 have HW := Aside0.mk h
 have HE := Aside0.mk hE
 have HH := Aside0.mk H
 have HR := Aside0.mk hR
 have HS := Aside0.mk (H.set s hR).1
 have HS1 := Aside0.mk (H.set s hR).2
 have HP := Aside0.mk hp
 have HT := Aside0.mk hT
 have IH := Aside0.mk ih
 have HL := Aside0.mk hl
 have c1 : (pcount s == 1) = false := by simp [hp]
 obtain ⟨t0, t1, t2, t3, t4, t5⟩ := H.test s hR hp
 obtain ⟨tk, htk⟩ : ∃ tk : Nat, tf s = tk := ⟨(tf s).toNat, by omega⟩
 obtain ⟨x, hx⟩ : ∃ x, rd E.l3 (tk : Int) = x := ⟨_, rfl⟩
 rw [htk, hx] at t2 t3 t4 t5
 have hparts := split_parts (H.set s hR).1 t2 t3
 have hadd := bSub_add (H.set s hR).1 t2
 obtain ⟨ad, e1, hcx⟩ := Kd.at_int hE.r3 (tk : Int) (by omega) (by omega)
 simp only [Int.toNat_natCast] at hcx
 rw [hx] at hcx
 obtain ⟨sa, hsa⟩ : ∃ sa, Go.bits .and .u64 s x = sa := ⟨_, rfl⟩
 obtain ⟨sb, hsb⟩ : ∃ sb, Go.bits .andNot .u64 s x = sb := ⟨_, rfl⟩
 have HSA := Aside0.mk (show bAnd s x = sa from hsa)
 have HSB := Aside0.mk (show bSub s x = sb from hsb)
 rw [HSA.out, HSB.out] at hparts hadd
 rw [HSA.out] at t5
 rw [HSB.out] at t4
 have HPA := Aside0.mk hparts
 have HAD := Aside0.mk hadd
 have HRA := Aside0.mk t5
 have HRB := Aside0.mk t4
 have HTK := Aside0.mk htk
 have HX := Aside0.mk hx
 have HCX := Aside0.mk hcx
 have E1 := Aside0.mk e1
 have htl : (tk : Int) < E.l3.length := by omega
 have htl' : tk < E.l3.length := by omega
 have hm3 := Kd.C_max hE.r3
 obtain ⟨A, c, rfl⟩ := Kd.R_slice h.rw
 have hcz : W.cell? ⟨E.go, 0, none⟩ = some (.slice A xs.length c) := (blk_cell h.bo 0).trans rfl
 have hcs : W.cell? ⟨E.gs, 0, none⟩ = some (.func (.func 60) #[] #[.pointer (some ⟨E.gq, 0, none⟩)]) := by rw [← hF]; exact (blk_cell h.bs 0).trans rfl
 have hT' := hT
 rw [htk] at hT'
 have HT := Aside0.mk hT'
 clear h H hR hp hT hT' ih hl t0 t1 t2 t3 t4 t5 htk hx hparts hadd hcx e1
 go_enter Tryd.func68, Tryd.ntmps68
 go_upto_region 6 with (first | (go_at_call 69; refine (ones_n _ (u64_id HS.out) _).mono ?_; rintro e w' ⟨rfl, rfl⟩) | (go_at_call 60; refine (HT.out _ HW.out.bl).mono ?_; rintro e w1 ⟨rfl, hb⟩; have HW1 := Aside0.mk (HW.out.below hb); clear hb))
 clear hcz
 have hcz : w1.cell? ⟨E.go, 0, none⟩ = some (.slice A xs.length c) := (blk_cell HW1.out.bo 0).trans rfl
 obtain ⟨x1, hx1⟩ : ∃ x1, x1 = xs ++ [(⟨tk, 0, 0, 0⟩ : S57)] := ⟨_, rfl⟩
 have hlen1 : x1.length = xs.length + 1 := by rw [hx1]; simp
 have HX1 := Aside0.mk hx1
 have HLEN1 := Aside0.mk hlen1
 clear hlen1
 go_upto_region 7 with (at_builtin; go_loud (refine Kd.R_append k57 (w0 := E.W0) E.W0.heap.size rfl (.tmp 26) (.tmp 29) 27 57 (.agg #[(.int .i64 0), (.int .i64 0), (.int .i64 0), (.int .i64 0)]) 32 rfl Tryd.underlying27 info57t rfl (by decide) (by omega) (.slice A xs.length c) xs (⟨tk, 0, 0, 0⟩ : S57) [.int .i64 tk, .int .i64 0, .int .i64 0, .int .i64 0] (fun _ => True) (fun _ => False) rfl rfl ?aP (fun _ hk => hk.elim) (fun _ _ => trivial) ?aO ?aB ?aS ?aL ?_); go_loud (case aP => exact k57_mkM _ _ _ _); go_loud (case aO => exact HW1.out.rw); go_loud (case aB => exact HW1.out.bl); go_loud (case aS => exact HW1.out.bl.size); go_loud (case aL => have h1 := HL.out; omega); intro v1 w2 ho hb hg hat; obtain ⟨A1, n1, rfl⟩ := Kd.R_slice ho; rw [← hx1] at ho; rw [← hx1]; have HPW := Aside0.mk (PW.put HE.out HW1.out ho hb hg); have e1 := blk_grown HW1.out.bo hg (Kd.R_ne HW1.out.rw HW1.out.bo (by decide)); clear hcz; have hcz1 : w2.cell? ⟨E.go, 0, none⟩ = some (.slice A xs.length c) := (blk_cell e1 0).trans rfl; have hfz1 := blk_frozen e1 0; clear ho hb hg hat e1 hx1)
 clear hcz1 hfz1
 generalize (w2.setCell ⟨E.go, 0, none⟩ (.slice A1 x1.length n1)) = w3 at HPW ⊢
 have hS := adds_mk60 HE.out HPW.out E1.out HCX.out
 have HLB := Aside0.mk (show x1.length + 2 * sb.toNat ≤ 4096 by have h1 := HL.out; have h2 := HLEN1.out; have h3 := HPA.out; have h4 := HAD.out; omega)
 have HDW := Aside0.mk (HPW.out.below (below_drew (Below.refl _ _)))
 go_region_held3 (fun w' => w'.cell? ⟨E.ga, 0, none⟩ = some (.func (.func 68) #[] #[.pointer (some ⟨E.go, 0, none⟩), .pointer (some ⟨E.gs, 0, none⟩), .pointer (some ⟨E.ga, 0, none⟩), .pointer (some ⟨E.gt, 0, none⟩)]) ∧ w'.cell? ⟨E.gt, 3, none⟩ = some (.slice (some ad) E.l3.length E.c3) ∧ w'.cell? (ad.add tk) = some (.int .u64 x)) (first | exact hS | exact adds_mk60 HE.out HDW.out E1.out HCX.out | exact adds_mk60 HE.out HP9.out E1.out HCX.out)
  ((go_at_call 68; (with_reducible refine (IH.out sb ?side1 ?side2 _ (.slice A1 x1.length n1) x1 ?side3 ?side4).mono ?_); (case side1 => exact HRB.out); (case side2 => exact HPA.out.2.2); (case side3 => exact HDW.out); (case side4 => exact HLB.out); rintro e w9 ⟨v9, rfl, hp9⟩; have HP9 := Aside0.mk hp9; clear hp9))
 obtain ⟨zs, hzs⟩ : ∃ zs, zs = treeB tf E.l3 sb x1.length := ⟨_, rfl⟩
 rw [← hzs] at HP9
 have HZS := Aside0.mk hzs
 have hzl : zs.length + 1 ≤ 2 * sb.toNat := by rw [hzs]; exact treeB_len HH.out sb.toNat sb x1.length HRB.out (Nat.le_refl _)
 obtain ⟨x2, hx2⟩ : ∃ x2, x2 = x1 ++ zs := ⟨_, rfl⟩
 rw [← hx2] at HP9
 have HX2 := Aside0.mk hx2
 have HLEN2 := Aside0.mk (show x2.length = x1.length + zs.length by rw [hx2]; simp)
 have HLA := Aside0.mk (show x2.length + 2 * sa.toNat ≤ 4096 by have h1 := HL.out; have h2 := HLEN1.out; have h3 := HPA.out; have h4 := HAD.out; have h5 := HLEN2.out; omega)
 have HZL := Aside0.mk hzl
 clear hzs hx2 hzl
 obtain ⟨A2, n2, rfl⟩ := Kd.R_slice HP9.out.rw
 go_wp2
 clear hS
 have hS := adds_mk60 HE.out HP9.out E1.out HCX.out
 have HDV := Aside0.mk (HP9.out.below (below_drew (Below.refl _ _)))
 go_region_held3 (fun w' => w'.cell? ⟨E.ga, 0, none⟩ = some (.func (.func 68) #[] #[.pointer (some ⟨E.go, 0, none⟩), .pointer (some ⟨E.gs, 0, none⟩), .pointer (some ⟨E.ga, 0, none⟩), .pointer (some ⟨E.gt, 0, none⟩)]) ∧ w'.cell? ⟨E.gt, 3, none⟩ = some (.slice (some ad) E.l3.length E.c3) ∧ w'.cell? (ad.add tk) = some (.int .u64 x)) (first | exact hS | exact adds_mk60 HE.out HDV.out E1.out HCX.out | exact adds_mk60 HE.out HP10.out E1.out HCX.out)
  ((go_at_call 68; (with_reducible refine (IH.out sa ?side1 ?side2 _ (.slice A2 x2.length n2) x2 ?side3 ?side4).mono ?_); (case side1 => exact HRA.out); (case side2 => exact HPA.out.1.2); (case side3 => exact HDV.out); (case side4 => exact HLA.out); rintro e w10 ⟨v10, rfl, hp10⟩; have HP10 := Aside0.mk hp10; clear hp10))
 obtain ⟨os, hos⟩ : ∃ os, os = treeB tf E.l3 sa x2.length := ⟨_, rfl⟩
 rw [← hos] at HP10
 have HOS := Aside0.mk hos
 obtain ⟨x3, hx3⟩ : ∃ x3, x3 = x2 ++ os := ⟨_, rfl⟩
 rw [← hx3] at HP10
 have HX3 := Aside0.mk hx3
 have hl3 : xs.length < x3.length := by have h1 := HLEN1.out; have h2 := HLEN2.out; rw [hx3]; simp; omega
 have HL3 := Aside0.mk hl3
 obtain ⟨g, n3, rfl, hgb, hgl, cells, hgc⟩ := Kd.R_form HP10.out.rw (by omega)
 have hget : x3.getD xs.length z57 = (⟨tk, 0, 0, 0⟩ : S57) := by
  rw [hx3, HX2.out, HX1.out]; simp [List.getD_eq_getElem?_getD, List.append_assoc]
 obtain ⟨⟨hc2, hc3, hf2, hf3⟩, hRN, hGN⟩ := node_put HP10.out.rw hl3 (⟨tk, 0, 0, 0⟩ : S57) hget (x1.length : Nat) (x2.length : Nat)
 have hfin : x3.set xs.length ⟨tk, 0, ((x1.length : Nat) : Int), ((x2.length : Nat) : Int)⟩ = xs ++ treeB tf E.l3 s xs.length := by
  have h1 := HLEN1.out
  have h2 := HLEN2.out
  rw [treeB_two HH.out s xs.length HR.out HP.out, HTK.out, HX.out, HSA.out, HSB.out, show xs.length + 1 = x1.length by omega, ← HZS.out, show x1.length + zs.length = x2.length by omega, ← hos, hx3, HX2.out, HX1.out]
  simp [List.append_assoc]
 rw [hfin] at hRN
 have HPN := Aside0.mk (PW.node HE.out HP10.out (g := g) rfl hRN hGN)
 have HRN := Aside0.mk hRN
 have HGN := Aside0.mk hGN
 have hcz : w10.cell? ⟨E.go, 0, none⟩ = some (.slice (some ⟨g, 0, none⟩) x3.length n3) := (blk_cell HP10.out.bo 0).trans rfl
 have hgo : E.go ≠ g := fun e => by have := HP10.out.bo; rw [e, hgc] at this; cases this
 have hli : (0 : Int) ≤ (xs.length : Int) := by omega
 have hli3 : (xs.length : Int) < (x3.length : Int) := by omega
 clear hos hx3 hS hRN hGN hget hfin
 go_wp2
 go_region_held3 (fun w' => w'.cell? ⟨E.go, 0, none⟩ = some (.slice (some ⟨g, 0, none⟩) x3.length n3)) (first | exact hcz | exact keepGo hcz hgo | exact keepGo2 hcz hgo)
  (fail)
 go_wp2
 go_ret
 exact ⟨_, rfl, HPN.out.below (below_drew (Below.refl _ _))⟩
theorem add_all60 (E : PEnv) (tf : Int → Int) (R : Int → Prop) (H : Runs tf E.l3 R) (hF : E.F = 60) (hE : POk E)
  (hT : ∀ W, Below E.W0.heap.size E.W0 W → ∀ s, R s → pcount s ≠ 1 → Calls Tryd.prog 60 #[.int .u64 s, .pointer (some ⟨E.gq, 0, none⟩)] W fun e w' => e = .returned (.int .i64 (tf s)) ∧ Below W.heap.size W w') (d : Nat) :
  ∀ u, R u → u.toNat ≤ d → ∀ W v xs, PW E W v xs → xs.length + 2 * u.toNat ≤ 4096 → Calls Tryd.prog 68 #[.int .u64 u, .pointer (some ⟨E.go, 0, none⟩), .pointer (some ⟨E.gs, 0, none⟩), .pointer (some ⟨E.ga, 0, none⟩), .pointer (some ⟨E.gt, 0, none⟩)] W (APost E tf u xs) := by
 induction d with
 | zero => intro u h1 h2; have h3 := H.set u h1; omega
 | succ d ih =>
  intro u h1 h2 W v xs h hl
  have h3 := H.set u h1
  by_cases hp : pcount u = 1
  ·exact add_one E tf u h3.1 h3.2 hp W v xs hE h (by omega)
  ·exact add_step60 E tf R H hF u h1 hp W v xs hE h hl (fun W hb => hT W hb u h1 hp) (fun q q1 q2 W v xs hq => by
    have h4 := H.set q q1
    exact ih q q1 (by omega) W v xs hq)
set_option maxHeartbeats 8000000 in
set_option maxRecDepth 100000 in
theorem plan60 (A0 : Option Addr) (c0 : Nat) (l0 : List Int) (A1 : Option Addr) (c1 : Nat) (l1 : List (List Int)) (A2 : Option Addr) (c2 : Nat) (l2 : List Int) (A3 : Option Addr) (c3 : Nat) (l3 : List Int) (al : Int) (gq : Nat) (tf : Int → Int) (R : Int → Prop) (W : World)
  (r3 : Kd.C (Kd.int .u64) W A3 l3.length l3) (n3 : l3.length ≤ c3) (hTab : Tab W) (H : Runs tf l3 R) (hR : R al)
  (hT : ∀ W', Below W.heap.size W W' → ∀ s, R s → pcount s ≠ 1 → Calls Tryd.prog 60 #[.int .u64 s, .pointer (some ⟨gq, 0, none⟩)] W' fun e w' => e = .returned (.int .i64 (tf s)) ∧ Below W'.heap.size W' w') :
  Calls Tryd.prog 50 #[.agg #[.slice A0 l0.length c0, .slice A1 l1.length c1, .slice A2 l2.length c2, .slice A3 l3.length c3, .int .u64 al], .func (.func 60) #[] #[.pointer (some ⟨gq, 0, none⟩)]] W (PPost (treeB tf l3 al 0) W) := by
 have hE : POk ⟨W, W.heap.size + 1 + 1, W.heap.size + 1, W.heap.size + 1 + 1 + 1, W.heap.size, gq, A0, c0, l0, A1, c1, l1, A2, c2, l2, A3, c3, l3, al, 60⟩ := ⟨r3, n3, (by show W.heap.size ≤ W.heap.size + 1 + 1; omega), hTab⟩
 have hal := H.set al hR
 have hal2 : 2 * al.toNat ≤ 4096 := by have h1 := hal.1; unfold SetB at h1; omega
 have hA := add_all60 ⟨W, W.heap.size + 1 + 1, W.heap.size + 1, W.heap.size + 1 + 1 + 1, W.heap.size, gq, A0, c0, l0, A1, c1, l1, A2, c2, l2, A3, c3, l3, al, 60⟩ tf R H rfl hE hT al.toNat al hR (Nat.le_refl _) _ _ [] (PW.start ⟨W, W.heap.size + 1 + 1, W.heap.size + 1, W.heap.size + 1 + 1 + 1, W.heap.size, gq, A0, c0, l0, A1, c1, l1, A2, c2, l2, A3, c3, l3, al, 60⟩ rfl rfl rfl rfl) (by simpa using hal2)
 have HA := Aside0.mk (hA.mono (R' := AllPost (treeB tf l3 al 0) W) (fun e w' h => all_post h))
 clear hA
 clear r3 hTab H hR hT hE hal hal2
 go_enter Tryd.func50, Tryd.ntmps50
 go_wp2_with (go_at_call 68; refine (HA.out).mono ?_; rintro e w9 ⟨v9, rfl, hp0, hp1, hp2⟩; have HP9 := Aside0.mk (And.intro hp1 hp2); have hcz : w9.cell? ⟨W.heap.size + 1 + 1, 0, none⟩ = some v9 := (blk_cell hp0 0).trans rfl; clear hp0 hp1 hp2)
 go_ret
 exact ⟨_, rfl, HP9.out.1, HP9.out.2⟩
end Go.Proofs.YtekmiepdodaidaaDoor.X
end

section
namespace Go.Proofs.YtekmiepdodaidaaDoor.X
open Go.RowKit Go.Proofs.YtekmiepdodaidaaDoorW.PrintWords Go.Proofs.YtekmiepdodaidaaDoorW.PrintLast Go.Proofs.YtekmiepdodaidaaDoorW.PrintMore
attribute [local go_sem] max2_int min2_int max_two min_two max_three min_three max_four min_four   -- for this text's walks alone
set_option linter.unusedVariables false
set_option linter.unusedSimpArgs false

def tests_within.f (a0 : Int) (a1 : Int) (a2 : Int) : Option (Bool) := if a0 ≥ a1 then (some (decide (a0 ≤ a2))) else (some false)
set_option maxHeartbeats 8000000 in
set_option maxRecDepth 100000 in
theorem tests_within.calls (a0 : Int) (a1 : Int) (a2 : Int) (r : Bool) (w : World) (h : tests_within.f a0 a1 a2 = some r) :
  Calls Tryd.prog 47 #[.int .i64 a0, .int .i64 a1, .int .i64 a2] w fun e w' => e = .returned (.bool r) ∧ Drawn0 w w' := by
 have H : (if a0 ≥ a1 then (some (decide (a0 ≤ a2))) else (some false)) = some r := h
 clear h
 by_cases c4 : a0 ≥ a1
 ·rw [if_pos c4] at H
  have c4b0 : decide (a1 ≤ a0) = true := decide_eq_true c4
  clear c4
  obtain rfl := Option.some.inj H
  go_enter Tryd.func47, Tryd.ntmps47
  go_wp2
  go_ret
  exact ⟨by first | rfl | (simp; done) | (simp [*]; done), by repeat (first | exact Drawn0.refl _ | apply Drawn0.step)⟩
 ·rw [if_neg c4] at H
  have c4b0 : decide (a1 ≤ a0) = false := decide_eq_false c4
  clear c4
  obtain rfl := Option.some.inj H
  go_enter Tryd.func47, Tryd.ntmps47
  go_wp2
  go_ret
  exact ⟨by first | rfl | (simp; done) | (simp [*]; done), by repeat (first | exact Drawn0.refl _ | apply Drawn0.step)⟩

end Go.Proofs.YtekmiepdodaidaaDoor.X
end

section
/- slices.ContainsFunc and slices.IndexFunc at the closures of newTrial: is any number out of its bounds? -/
set_option linter.unusedVariables false
set_option linter.unusedSimpArgs false
namespace Go.Proofs.YtekmiepdodaidaaDoor.X
open Go.RowKit Go.Proofs.YtekmiepdodaidaaDoorW.PrintWords Go.Proofs.YtekmiepdodaidaaDoorW.PrintLast Go.Proofs.YtekmiepdodaidaaDoorW.PrintMore

def inB (lo hi d : Int) : Bool := decide (lo ≤ d) && decide (d ≤ hi)
def tests_newTrial_1.f (l : List Int) : Option Bool := some (!l.all (inB 1 1000))
def tests_newTrial_2.f (l : List Int) : Option Bool := some (!l.all (inB 1 100))
def tests_newTrial_3.f (l : List Int) : Option Bool := some (!l.all (inB 0 1))

theorem within_n (n lo hi : Int) (w : World) : Calls Tryd.prog 47 #[.int .i64 n, .int .i64 lo, .int .i64 hi] w fun e w' => e = .returned (.bool (inB lo hi n)) ∧ w = w' := by
 unfold inB
 by_cases h1 : lo ≤ n
 ·have c1 : decide (lo ≤ n) = true := decide_eq_true h1
  have HG := Aside0.mk (show (decide (lo ≤ n) && decide (n ≤ hi)) = decide (n ≤ hi) by rw [c1]; rfl)
  clear h1
  go_enter Tryd.func47, Tryd.ntmps47
  go_wp2
  go_ret
  exact ⟨by rw [HG.out]; rfl, rfl⟩
 ·have c1 : decide (lo ≤ n) = false := decide_eq_false h1
  have HG := Aside0.mk (show (decide (lo ≤ n) && decide (n ≤ hi)) = false by rw [c1]; rfl)
  clear h1
  go_enter Tryd.func47, Tryd.ntmps47
  go_wp2
  go_ret
  exact ⟨by rw [HG.out]; rfl, rfl⟩

def BadAt (f : Int → Bool) (d : Int) (e : Ending) : Prop := e = .returned (.bool (!f d))
theorem bad62 (d : Int) (w : World) : Calls Tryd.prog 62 #[.int .i64 d] w fun e w' => BadAt (inB 1 1000) d e ∧ w = w' := by
 go_enter Tryd.func62, Tryd.ntmps62
 go_wp2_with (go_at_call 47; refine (within_n _ _ _ _).mono ?_; rintro e w' ⟨rfl, rfl⟩)
 go_ret
 exact ⟨rfl, rfl⟩
theorem bad63 (d : Int) (w : World) : Calls Tryd.prog 63 #[.int .i64 d] w fun e w' => BadAt (inB 1 100) d e ∧ w = w' := by
 go_enter Tryd.func63, Tryd.ntmps63
 go_wp2_with (go_at_call 47; refine (within_n _ _ _ _).mono ?_; rintro e w' ⟨rfl, rfl⟩)
 go_ret
 exact ⟨rfl, rfl⟩
theorem bad64 (d : Int) (w : World) : Calls Tryd.prog 64 #[.int .i64 d] w fun e w' => BadAt (inB 0 1) d e ∧ w = w' := by
 go_enter Tryd.func64, Tryd.ntmps64
 go_wp2_with (go_at_call 47; refine (within_n _ _ _ _).mono ?_; rintro e w' ⟨rfl, rfl⟩)
 go_ret
 exact ⟨rfl, rfl⟩

/-- Where the first bad number stands. -/
def SomeIdx (f : Int → Bool) (l : List Int) (w : World) (e : Ending) (w' : World) : Prop := ∃ v : Int, e = .returned (.int .i64 v) ∧ w = w' ∧ (0 ≤ v ↔ l.all f = false)
set_option maxHeartbeats 2000000 in
set_option maxRecDepth 100000 in
theorem idx62 (f : Int → Bool) (hcl : ∀ d w, Calls Tryd.prog 62 #[.int .i64 d] w fun e w' => BadAt f d e ∧ w = w') (A : Option Addr) (c : Nat) (l : List Int) (w : World) (hr : Kd.C (Kd.int .i64) w A l.length l) :
  Calls Tryd.prog 73 #[.slice A l.length c, .func (.func 62) #[] #[]] w (SomeIdx f l w) := by
 have HR := Aside0.mk hr
 have HCL := Aside0.mk hcl
 have hm := Kd.C_max hr
 clear hr hcl
 go_enter Tryd.func73, Tryd.ntmps73
 go_wp2
 go_loopg [8] l.length (fun kq v8 w' => ∃ k : Nat, v8 = .int .i64 k ∧ w = w' ∧ Aside0 (kq + k = l.length) ∧ Aside0 (∀ j, j < k → f (rd l j) = true))
 case atStart => exact ⟨0, rfl, rfl, ⟨by omega⟩, ⟨by intro j hj; omega⟩⟩
 case round =>
  obtain ⟨k, rfl, rfl, HK, HOK⟩ := hrel
  by_cases hk : k < l.length
  ·obtain ⟨ad, e1, hx⟩ := Kd.at_int HR.out (k : Int) (by omega) (by omega)
   cases e1
   simp only [Int.toNat_natCast] at hx
   obtain ⟨x, hx'⟩ : ∃ x, rd l (k : Int) = x := ⟨_, rfl⟩
   rw [hx'] at hx
   have HX := Aside0.mk hx'
   clear hx'
   obtain ⟨b, hb⟩ : ∃ b, f x = b := ⟨_, rfl⟩
   have HBX := Aside0.mk hb
   clear hb
   cases b with
   | true =>
    go_wp2_with (go_at_call 62; refine (HCL.out x _).mono ?_; rintro e w' ⟨he, rfl⟩; unfold BadAt at he; rw [HBX.out] at he; subst he)
    go_roundg (gk - 1)
    case measure => have := HK.out; omega
    case rel => exact ⟨k + 1, by go_num, rfl, ⟨by have := HK.out; omega⟩, ⟨by intro j hj; by_cases e : j = k; (subst e; rw [HX.out]; exact HBX.out); exact HOK.out j (by omega)⟩⟩
   | false =>
    have HBAD := Aside0.mk (show l.all f = false by
     rw [List.all_eq_false]
     refine ⟨x, ?_, by rw [HBX.out]; decide⟩
     rw [← HX.out]; simp only [rd, Int.toNat_natCast, List.getD_eq_getElem?_getD, List.getElem?_eq_getElem hk, Option.getD_some]; exact List.getElem_mem hk)
    go_wp2_with (go_at_call 62; refine (HCL.out x _).mono ?_; rintro e w' ⟨he, rfl⟩; unfold BadAt at he; rw [HBX.out] at he; subst he)
    go_ret
    exact ⟨k, rfl, rfl, by simp [HBAD.out]⟩
  ·have hk' : k = l.length := by have := HK.out; omega
   have HALL := Aside0.mk (show l.all f = true by
    rw [List.all_eq_true]
    intro x hx
    obtain ⟨i, hi, rfl⟩ := List.getElem_of_mem hx
    have := HOK.out i (by omega)
    simpa [rd, List.getD_eq_getElem?_getD, List.getElem?_eq_getElem hi] using this)
   obtain rfl := hk'
   go_wp2
   go_ret
   exact ⟨-1, rfl, rfl, by simp [HALL.out]⟩

theorem contains62 (f : Int → Bool) (hcl : ∀ d w, Calls Tryd.prog 62 #[.int .i64 d] w fun e w' => BadAt f d e ∧ w = w') (A : Option Addr) (c : Nat) (l : List Int) (w : World) (hr : Kd.C (Kd.int .i64) w A l.length l) :
  Calls Tryd.prog 61 #[.slice A l.length c, .func (.func 62) #[] #[]] w fun e w' => e = .returned (.bool (!l.all f)) ∧ w = w' := by
 have HR := Aside0.mk hr
 have HCL := Aside0.mk hcl
 clear hr hcl
 obtain ⟨b, hb⟩ : ∃ b, l.all f = b := ⟨_, rfl⟩
 rw [hb]
 have HBB := Aside0.mk hb
 clear hb
 go_enter Tryd.func61, Tryd.ntmps61
 go_wp2_with fail
 refine (idx62 f HCL.out A c l _ HR.out).mono ?_
 rintro e w' ⟨v, rfl, rfl, hv⟩
 rw [HBB.out] at hv
 cases b with
 | true =>
  have h0 : decide (0 ≤ v) = false := decide_eq_false (fun h => by simpa using hv.1 h)
  clear hv
  go_wp2
  go_ret
  exact ⟨rfl, rfl⟩
 | false =>
  have h0 : decide (0 ≤ v) = true := decide_eq_true (hv.2 rfl)
  clear hv
  go_wp2
  go_ret
  exact ⟨rfl, rfl⟩

set_option maxHeartbeats 2000000 in
set_option maxRecDepth 100000 in
theorem idx63 (f : Int → Bool) (hcl : ∀ d w, Calls Tryd.prog 63 #[.int .i64 d] w fun e w' => BadAt f d e ∧ w = w') (A : Option Addr) (c : Nat) (l : List Int) (w : World) (hr : Kd.C (Kd.int .i64) w A l.length l) :
  Calls Tryd.prog 73 #[.slice A l.length c, .func (.func 63) #[] #[]] w (SomeIdx f l w) := by
 have HR := Aside0.mk hr
 have HCL := Aside0.mk hcl
 have hm := Kd.C_max hr
 clear hr hcl
 go_enter Tryd.func73, Tryd.ntmps73
 go_wp2
 go_loopg [8] l.length (fun kq v8 w' => ∃ k : Nat, v8 = .int .i64 k ∧ w = w' ∧ Aside0 (kq + k = l.length) ∧ Aside0 (∀ j, j < k → f (rd l j) = true))
 case atStart => exact ⟨0, rfl, rfl, ⟨by omega⟩, ⟨by intro j hj; omega⟩⟩
 case round =>
  obtain ⟨k, rfl, rfl, HK, HOK⟩ := hrel
  by_cases hk : k < l.length
  ·obtain ⟨ad, e1, hx⟩ := Kd.at_int HR.out (k : Int) (by omega) (by omega)
   cases e1
   simp only [Int.toNat_natCast] at hx
   obtain ⟨x, hx'⟩ : ∃ x, rd l (k : Int) = x := ⟨_, rfl⟩
   rw [hx'] at hx
   have HX := Aside0.mk hx'
   clear hx'
   obtain ⟨b, hb⟩ : ∃ b, f x = b := ⟨_, rfl⟩
   have HBX := Aside0.mk hb
   clear hb
   cases b with
   | true =>
    go_wp2_with (go_at_call 63; refine (HCL.out x _).mono ?_; rintro e w' ⟨he, rfl⟩; unfold BadAt at he; rw [HBX.out] at he; subst he)
    go_roundg (gk - 1)
    case measure => have := HK.out; omega
    case rel => exact ⟨k + 1, by go_num, rfl, ⟨by have := HK.out; omega⟩, ⟨by intro j hj; by_cases e : j = k; (subst e; rw [HX.out]; exact HBX.out); exact HOK.out j (by omega)⟩⟩
   | false =>
    have HBAD := Aside0.mk (show l.all f = false by
     rw [List.all_eq_false]
     refine ⟨x, ?_, by rw [HBX.out]; decide⟩
     rw [← HX.out]; simp only [rd, Int.toNat_natCast, List.getD_eq_getElem?_getD, List.getElem?_eq_getElem hk, Option.getD_some]; exact List.getElem_mem hk)
    go_wp2_with (go_at_call 63; refine (HCL.out x _).mono ?_; rintro e w' ⟨he, rfl⟩; unfold BadAt at he; rw [HBX.out] at he; subst he)
    go_ret
    exact ⟨k, rfl, rfl, by simp [HBAD.out]⟩
  ·have hk' : k = l.length := by have := HK.out; omega
   have HALL := Aside0.mk (show l.all f = true by
    rw [List.all_eq_true]
    intro x hx
    obtain ⟨i, hi, rfl⟩ := List.getElem_of_mem hx
    have := HOK.out i (by omega)
    simpa [rd, List.getD_eq_getElem?_getD, List.getElem?_eq_getElem hi] using this)
   obtain rfl := hk'
   go_wp2
   go_ret
   exact ⟨-1, rfl, rfl, by simp [HALL.out]⟩

theorem contains63 (f : Int → Bool) (hcl : ∀ d w, Calls Tryd.prog 63 #[.int .i64 d] w fun e w' => BadAt f d e ∧ w = w') (A : Option Addr) (c : Nat) (l : List Int) (w : World) (hr : Kd.C (Kd.int .i64) w A l.length l) :
  Calls Tryd.prog 61 #[.slice A l.length c, .func (.func 63) #[] #[]] w fun e w' => e = .returned (.bool (!l.all f)) ∧ w = w' := by
 have HR := Aside0.mk hr
 have HCL := Aside0.mk hcl
 clear hr hcl
 obtain ⟨b, hb⟩ : ∃ b, l.all f = b := ⟨_, rfl⟩
 rw [hb]
 have HBB := Aside0.mk hb
 clear hb
 go_enter Tryd.func61, Tryd.ntmps61
 go_wp2_with fail
 refine (idx63 f HCL.out A c l _ HR.out).mono ?_
 rintro e w' ⟨v, rfl, rfl, hv⟩
 rw [HBB.out] at hv
 cases b with
 | true =>
  have h0 : decide (0 ≤ v) = false := decide_eq_false (fun h => by simpa using hv.1 h)
  clear hv
  go_wp2
  go_ret
  exact ⟨rfl, rfl⟩
 | false =>
  have h0 : decide (0 ≤ v) = true := decide_eq_true (hv.2 rfl)
  clear hv
  go_wp2
  go_ret
  exact ⟨rfl, rfl⟩

set_option maxHeartbeats 2000000 in
set_option maxRecDepth 100000 in
theorem idx64 (f : Int → Bool) (hcl : ∀ d w, Calls Tryd.prog 64 #[.int .i64 d] w fun e w' => BadAt f d e ∧ w = w') (A : Option Addr) (c : Nat) (l : List Int) (w : World) (hr : Kd.C (Kd.int .i64) w A l.length l) :
  Calls Tryd.prog 73 #[.slice A l.length c, .func (.func 64) #[] #[]] w (SomeIdx f l w) := by
 have HR := Aside0.mk hr
 have HCL := Aside0.mk hcl
 have hm := Kd.C_max hr
 clear hr hcl
 go_enter Tryd.func73, Tryd.ntmps73
 go_wp2
 go_loopg [8] l.length (fun kq v8 w' => ∃ k : Nat, v8 = .int .i64 k ∧ w = w' ∧ Aside0 (kq + k = l.length) ∧ Aside0 (∀ j, j < k → f (rd l j) = true))
 case atStart => exact ⟨0, rfl, rfl, ⟨by omega⟩, ⟨by intro j hj; omega⟩⟩
 case round =>
  obtain ⟨k, rfl, rfl, HK, HOK⟩ := hrel
  by_cases hk : k < l.length
  ·obtain ⟨ad, e1, hx⟩ := Kd.at_int HR.out (k : Int) (by omega) (by omega)
   cases e1
   simp only [Int.toNat_natCast] at hx
   obtain ⟨x, hx'⟩ : ∃ x, rd l (k : Int) = x := ⟨_, rfl⟩
   rw [hx'] at hx
   have HX := Aside0.mk hx'
   clear hx'
   obtain ⟨b, hb⟩ : ∃ b, f x = b := ⟨_, rfl⟩
   have HBX := Aside0.mk hb
   clear hb
   cases b with
   | true =>
    go_wp2_with (go_at_call 64; refine (HCL.out x _).mono ?_; rintro e w' ⟨he, rfl⟩; unfold BadAt at he; rw [HBX.out] at he; subst he)
    go_roundg (gk - 1)
    case measure => have := HK.out; omega
    case rel => exact ⟨k + 1, by go_num, rfl, ⟨by have := HK.out; omega⟩, ⟨by intro j hj; by_cases e : j = k; (subst e; rw [HX.out]; exact HBX.out); exact HOK.out j (by omega)⟩⟩
   | false =>
    have HBAD := Aside0.mk (show l.all f = false by
     rw [List.all_eq_false]
     refine ⟨x, ?_, by rw [HBX.out]; decide⟩
     rw [← HX.out]; simp only [rd, Int.toNat_natCast, List.getD_eq_getElem?_getD, List.getElem?_eq_getElem hk, Option.getD_some]; exact List.getElem_mem hk)
    go_wp2_with (go_at_call 64; refine (HCL.out x _).mono ?_; rintro e w' ⟨he, rfl⟩; unfold BadAt at he; rw [HBX.out] at he; subst he)
    go_ret
    exact ⟨k, rfl, rfl, by simp [HBAD.out]⟩
  ·have hk' : k = l.length := by have := HK.out; omega
   have HALL := Aside0.mk (show l.all f = true by
    rw [List.all_eq_true]
    intro x hx
    obtain ⟨i, hi, rfl⟩ := List.getElem_of_mem hx
    have := HOK.out i (by omega)
    simpa [rd, List.getD_eq_getElem?_getD, List.getElem?_eq_getElem hi] using this)
   obtain rfl := hk'
   go_wp2
   go_ret
   exact ⟨-1, rfl, rfl, by simp [HALL.out]⟩

theorem contains64 (f : Int → Bool) (hcl : ∀ d w, Calls Tryd.prog 64 #[.int .i64 d] w fun e w' => BadAt f d e ∧ w = w') (A : Option Addr) (c : Nat) (l : List Int) (w : World) (hr : Kd.C (Kd.int .i64) w A l.length l) :
  Calls Tryd.prog 61 #[.slice A l.length c, .func (.func 64) #[] #[]] w fun e w' => e = .returned (.bool (!l.all f)) ∧ w = w' := by
 have HR := Aside0.mk hr
 have HCL := Aside0.mk hcl
 clear hr hcl
 obtain ⟨b, hb⟩ : ∃ b, l.all f = b := ⟨_, rfl⟩
 rw [hb]
 have HBB := Aside0.mk hb
 clear hb
 go_enter Tryd.func61, Tryd.ntmps61
 go_wp2_with fail
 refine (idx64 f HCL.out A c l _ HR.out).mono ?_
 rintro e w' ⟨v, rfl, rfl, hv⟩
 rw [HBB.out] at hv
 cases b with
 | true =>
  have h0 : decide (0 ≤ v) = false := decide_eq_false (fun h => by simpa using hv.1 h)
  clear hv
  go_wp2
  go_ret
  exact ⟨rfl, rfl⟩
 | false =>
  have h0 : decide (0 ≤ v) = true := decide_eq_true (hv.2 rfl)
  clear hv
  go_wp2
  go_ret
  exact ⟨rfl, rfl⟩

theorem tests_newTrial_1.calls (A : Option Addr) (c : Nat) (l : List Int) (r : Bool) (w : World) (hr : Kd.C (Kd.int .i64) w A l.length l) (hc : l.length ≤ c) (h : tests_newTrial_1.f l = some r) :
  Calls Tryd.prog 61 #[.slice A l.length c, .func (.func 62) #[] #[]] w fun e w' => e = .returned (.bool r) ∧ Drawn0 w w' := by
 obtain rfl := Option.some.inj h
 exact (contains62 _ bad62 A c l w hr).mono (by rintro e w' ⟨rfl, rfl⟩; exact ⟨rfl, 0, rfl⟩)
theorem tests_newTrial_2.calls (A : Option Addr) (c : Nat) (l : List Int) (r : Bool) (w : World) (hr : Kd.C (Kd.int .i64) w A l.length l) (hc : l.length ≤ c) (h : tests_newTrial_2.f l = some r) :
  Calls Tryd.prog 61 #[.slice A l.length c, .func (.func 63) #[] #[]] w fun e w' => e = .returned (.bool r) ∧ Drawn0 w w' := by
 obtain rfl := Option.some.inj h
 exact (contains63 _ bad63 A c l w hr).mono (by rintro e w' ⟨rfl, rfl⟩; exact ⟨rfl, 0, rfl⟩)
theorem tests_newTrial_3.calls (A : Option Addr) (c : Nat) (l : List Int) (r : Bool) (w : World) (hr : Kd.C (Kd.int .i64) w A l.length l) (hc : l.length ≤ c) (h : tests_newTrial_3.f l = some r) :
  Calls Tryd.prog 61 #[.slice A l.length c, .func (.func 64) #[] #[]] w fun e w' => e = .returned (.bool r) ∧ Drawn0 w w' := by
 obtain rfl := Option.some.inj h
 exact (contains64 _ bad64 A c l w hr).mono (by rintro e w' ⟨rfl, rfl⟩; exact ⟨rfl, 0, rfl⟩)
end Go.Proofs.YtekmiepdodaidaaDoor.X
end
