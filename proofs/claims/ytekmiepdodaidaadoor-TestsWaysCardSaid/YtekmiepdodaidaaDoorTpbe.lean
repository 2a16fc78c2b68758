/- Texts behind TestsWays, part 31: contracts of the program's functions and the plain words for them. -/
import Derived.Test.YtekmiepdodaidaaDoorTpas
import Derived.Test.YtekmiepdodaidaaDoorTpat
import Derived.Test.YtekmiepdodaidaaDoorTpau
import Derived.Test.YtekmiepdodaidaaDoorTpav
import Derived.Test.YtekmiepdodaidaaDoorTpaw
import Derived.Test.YtekmiepdodaidaaDoorTpax
import Derived.Test.YtekmiepdodaidaaDoorTpay
import Derived.Test.YtekmiepdodaidaaDoorTpba
import Derived.Test.YtekmiepdodaidaaDoorTpbd
section
/- Layer 7: the program's functions at a case in which all faults differ. -/
set_option linter.unusedVariables false
set_option linter.unusedSimpArgs false
namespace Go.Proofs.YtekmiepdodaidaaDoor.X
open Go.RowKit Go.Proofs.YtekmiepdodaidaaDoorW.PrintWords Go.Proofs.YtekmiepdodaidaaDoorW.PrintLast Go.Proofs.YtekmiepdodaidaaDoorW.PrintMore

def planM (a : List Int) (b : List (List Int)) (c : List Int) : List S57 := treeB (fun s => (chs (mfMean a b c) (onesOf b) s).1) (onesOf b) (allOf a) 0
def valM (a : List Int) (b : List (List Int)) (c : List Int) : Int := cN (mfMean a b c) b (allOf a)
theorem boxS7 {W : World} {g : Nat} {x y z : Value} (h : W.heap[g]? = some (.cells #[x, y, z] 25 (0, 0))) : W.cell? ⟨g, 0, none⟩ = some x ∧ W.cell? ⟨g, 1, none⟩ = some y ∧ W.cell? ⟨g, 2, none⟩ = some z :=
 ⟨(blk_cell h 0).trans rfl, (blk_cell h 1).trans rfl, (blk_cell h 2).trans rfl⟩
/-- A list that was made comes back, in a value. -/
def SlPost {α : Type} (d : Kd α) (l : List α) (f : Value → Value) (w : World) (e : Ending) (w' : World) : Prop := ∃ A n, e = .returned (f (.slice A l.length n)) ∧ (l.length ≤ n ∧ d.C w' A l.length l) ∧ Below w.heap.size w w'
theorem sl_post {α : Type} {d : Kd α} {e : Nat} {l : List α} {v : Value} {w w' : World} {f : Value → Value} {base : Nat} {ok : Nat → Prop} (h : d.R e w' base ok v l) (hb : Below w.heap.size w w') : SlPost d l f w (.returned (f v)) w' := by
 obtain ⟨A, n, rfl⟩ := Kd.R_slice h
 exact ⟨A, n, rfl, ⟨(Kd.R_reads' h).2.1, (Kd.R_reads' h).2.2⟩, hb⟩
section
variable {A0 : Option Addr} {c0 : Nat} {a : List Int} {A1 : Option Addr} {c1 : Nat} {b : List (List Int)} {A2 : Option Addr} {c2 : Nat} {c : List Int} {w : World}
theorem best_n (h : CaseAt w A0 c0 a A1 c1 b A2 c2 c) (D : Differ a b c) (hT : Tab w) : Calls Tryd.prog 14 #[.agg #[.slice A0 a.length c0, .slice A1 b.length c1, .slice A2 c.length c2]] w (SlPost k57 (planM a b c) (fun v => .tuple #[v, .int .i64 (valM a b c), .int .i64 0]) w) := by
 refine (tests_Best.calls A0 c0 a A1 c1 b A2 c2 c (planM a b c) (valM a b c) 0 w h.r0 h.n0 h.r1 h.n1 h.r2 h.n2 ?_ hT).mono ?_
 ·unfold tests_Best.f optRes
  rw [if_pos (caseB_of D.is), if_pos D.al]; rfl
 ·rintro e w' ⟨v, rfl, hv, hb⟩
  exact sl_post (f := fun v => .tuple #[v, .int .i64 (valM a b c), .int .i64 0]) hv hb
theorem check_n (h : CaseAt w A0 c0 a A1 c1 b A2 c2 c) (A : Option Addr) (n : Nat) (p : List S57) (hp : p.length ≤ n ∧ k57.C w A p.length p) :
  Calls Tryd.prog 22 #[.agg #[.slice A0 a.length c0, .slice A1 b.length c1, .slice A2 c.length c2], .slice A p.length n] w fun e w' => e = .returned (.tuple #[.int .i64 (checkR a b c p).1, .int .i64 (checkR a b c p).2.1, .int .i64 (checkR a b c p).2.2]) ∧ Below w.heap.size w w' := by
 obtain ⟨k, hk⟩ := (check_ev a b c p).rounds
 exact tests_Check.calls k A0 c0 a A1 c1 b A2 c2 c A n p _ _ _ w h.r0 h.n0 h.r1 h.n1 h.r2 h.n2 hp.2 hp.1 hk
theorem awake_n (w : World) (hT : Tab w) : Calls Tryd.prog 17 #[] w fun e w' => e = .returned (.bool true) ∧ Below w.heap.size w w' := by
 obtain ⟨k, hk⟩ := awake_ev.rounds
 exact tickinglaw07_awake.calls k true w hk hT
/-- A law's case, in a box of its own. -/
structure LawW (w : World) (A0 : Option Addr) (c0 : Nat) (a : List Int) (A1 : Option Addr) (c1 : Nat) (b : List (List Int)) (A2 : Option Addr) (c2 : Nat) (c : List Int) (g : Nat) (w' : World) : Prop where
 bx : w'.heap[g]? = some (.cells #[.slice A0 a.length c0, .slice A1 b.length c1, .slice A2 c.length c2] 25 (0, 0))
 cs : CaseAt w' A0 c0 a A1 c1 b A2 c2 c
 bl : Below w.heap.size w w'
 lt : w.heap.size ≤ g
theorem LawW.below {w : World} {A0 : Option Addr} {c0 : Nat} {a : List Int} {A1 : Option Addr} {c1 : Nat} {b : List (List Int)} {A2 : Option Addr} {c2 : Nat} {c : List Int} {g : Nat} {w' w2 : World} (h : LawW w A0 c0 a A1 c1 b A2 c2 c g w') (hb : Below w'.heap.size w' w2) : LawW w A0 c0 a A1 c1 b A2 c2 c g w2 := ⟨blk_below h.bx hb, h.cs.below hb, below_step h.bl hb, h.lt⟩
theorem LawW.cells {w : World} {A0 : Option Addr} {c0 : Nat} {a : List Int} {A1 : Option Addr} {c1 : Nat} {b : List (List Int)} {A2 : Option Addr} {c2 : Nat} {c : List Int} {g : Nat} {w' : World} (h : LawW w A0 c0 a A1 c1 b A2 c2 c g w') : w'.cell? ⟨g, 0, none⟩ = some (.slice A0 a.length c0) ∧ w'.cell? ⟨g, 1, none⟩ = some (.slice A1 b.length c1) ∧ w'.cell? ⟨g, 2, none⟩ = some (.slice A2 c.length c2) := boxS7 h.bx
/-- A tame case. -/
def TameSl (a : List Int) (b : List (List Int)) (c : List Int) (w : World) (e : Ending) (w' : World) : Prop :=
 ∃ B0 d0 B1 d1 B2 d2, e = .returned (.agg #[.slice B0 (tameW a).length d0, .slice B1 (tameB a b).length d1, .slice B2 (tameC b c).length d2]) ∧ CaseAt w' B0 d0 (tameW a) B1 d1 (tameB a b) B2 d2 (tameC b c) ∧ Below w.heap.size w w'
theorem tame_sl (h : CaseAt w A0 c0 a A1 c1 b A2 c2 c) : Calls Tryd.prog 33 #[.agg #[.slice A0 a.length c0, .slice A1 b.length c1, .slice A2 c.length c2]] w (TameSl a b c w) := by
 refine (tame_n h).mono ?_
 rintro e w' ⟨v0, v1, v2, rfl, h0, h1, h2, hb⟩
 obtain ⟨B0, d0, rfl⟩ := Kd.R_slice h0
 obtain ⟨B1, d1, rfl⟩ := Kd.R_slice h1
 obtain ⟨B2, d2, rfl⟩ := Kd.R_slice h2
 exact ⟨B0, d0, B1, d1, B2, d2, rfl, ⟨(Kd.R_reads' h0).2.2, (Kd.R_reads' h0).2.1, (Kd.R_reads' h1).2.2, (Kd.R_reads' h1).2.1, (Kd.R_reads' h2).2.2, (Kd.R_reads' h2).2.1⟩, hb⟩
end
section
variable {a : List Int} {b : List (List Int)} {c : List Int}
end
end Go.Proofs.YtekmiepdodaidaaDoor.X
end

section
/- Layer 7: lists that come back as the caller's own; more of the program's functions. -/
set_option linter.unusedVariables false
set_option linter.unusedSimpArgs false
namespace Go.Proofs.YtekmiepdodaidaaDoor.X
open Go.RowKit Go.Proofs.YtekmiepdodaidaaDoorW.PrintWords Go.Proofs.YtekmiepdodaidaaDoorW.PrintLast Go.Proofs.YtekmiepdodaidaaDoorW.PrintMore

section
variable {A0 : Option Addr} {c0 : Nat} {a : List Int} {A1 : Option Addr} {c1 : Nat} {b : List (List Int)} {A2 : Option Addr} {c2 : Nat} {c : List Int} {w : World}
theorem ints_same (A : Option Addr) (n : Nat) (x : List Int) (A' : Option Addr) (n' : Nat) (hx : x.length ≤ n ∧ (Kd.int .i64).C w A x.length x) (hy : x.length ≤ n' ∧ (Kd.int .i64).C w A' x.length x) (hl : x.length < 100000) :
  Calls Tryd.prog 25 #[.slice A x.length n, .slice A' x.length n'] w fun e w' => e = .returned (.bool true) ∧ Drawn0 w w' := by
 obtain ⟨k, hk⟩ := (ints_ev x x hl).rounds
 rw [decide_eq_true rfl] at hk
 exact tickinglaw07_ints.calls k A n x A' n' x true w hx.2 hx.1 hy.2 hy.1 hk
theorem corr_M {a : List Int} {b : List (List Int)} {c : List Int} (D : Differ a b c) : ∃ w, corrR a b c (planM a b c) = (valM a b c, w, true) := by
 have h3 := corr_tree D (chs_ok D (mfMean a b c))
 refine ⟨worstS a.length c (fun s => (chs (mfMean a b c) (onesOf b) s).1) (onesOf b) (allOf a), ?_⟩
 unfold planM valM
 rw [h3, cN_mean D _ (allOf a) (all_in D) (Nat.le_refl _)]
end
end Go.Proofs.YtekmiepdodaidaaDoor.X
end

section
namespace Go.Proofs.YtekmiepdodaidaaDoor.X
open Go.RowKit Go.Proofs.YtekmiepdodaidaaDoorW.PrintWords Go.Proofs.YtekmiepdodaidaaDoorW.PrintLast Go.Proofs.YtekmiepdodaidaaDoorW.PrintMore
attribute [local go_sem] max2_int min2_int max_two min_two max_three min_three max_four min_four   -- for this text's walks alone
set_option linter.unusedVariables false
set_option linter.unusedSimpArgs false

mutual
def tests_Left.j0 : Nat → List (S53) → Bool → List Int → List (List Int) → List Int → List Int → Int → Option (List Int × Int)
 | 0, _, _, _, _, _, _, _ => none
 | k + 1, x1, x24, x505000, x505001, x505002, x505003, x505004 => if x24 = true then (some (([] : List Int), 2)) else (tests_Left.l0 k x505004 x1 (x1.length : Int) 0 x505000 x505001 x505002 x505003 x505004)
def tests_Left.l0 : Nat → Int → List (S53) → Int → Int → List Int → List (List Int) → List Int → List Int → Int → Option (List Int × Int)
 | 0, _, _, _, _, _, _, _, _, _ => none
 | k + 1, x8, x27, x28, x29, x505000, x505001, x505002, x505003, x505004 => if x29 < x28 then (if 0 ≤ x29 then (if x29 < (x27.length : Int) then ((tests_within.f ((rd_T53 x27 x29).f0) 0 (wrap64 ((x505003.length : Int) - 1))).bind fun t507 => (if t507 = true then ((tests_within.f ((rd_T53 x27 x29).f1) 0 1).bind fun t508 => (tests_Left.j2 k x8 x27 x28 x29 (!t508) x505000 x505001 x505002 x505003 x505004 ((rd_T53 x27 x29).f0) ((rd_T53 x27 x29).f1))) else (tests_Left.j2 k x8 x27 x28 x29 true x505000 x505001 x505002 x505003 x505004 ((rd_T53 x27 x29).f0) ((rd_T53 x27 x29).f1)))) else (none)) else (none)) else (tests_Left.l1 k x8 ([] : List Int) (x505000.length : Int) 0)
def tests_Left.j2 : Nat → Int → List (S53) → Int → Int → Bool → List Int → List (List Int) → List Int → List Int → Int → Int → Int → Option (List Int × Int)
 | 0, _, _, _, _, _, _, _, _, _, _, _, _ => none
 | k + 1, x8, x27, x28, x29, x46, x505000, x505001, x505002, x505003, x505004, x507000, x507001 => if x46 = true then (some (([] : List Int), 2)) else (if x507001 = 1 then (if 0 ≤ x507000 then (if x507000 < (x505003.length : Int) then (tests_Left.l0 k (Go.bits .and .u64 x8 (rd x505003 x507000)) x27 x28 (wrap64 (x29 + 1)) x505000 x505001 x505002 x505003 x505004) else (none)) else (none)) else (if 0 ≤ x507000 then (if x507000 < (x505003.length : Int) then (tests_Left.l0 k (Go.bits .andNot .u64 x8 (rd x505003 x507000)) x27 x28 (wrap64 (x29 + 1)) x505000 x505001 x505002 x505003 x505004) else (none)) else (none)))
def tests_Left.l1 : Nat → Int → List Int → Int → Int → Option (List Int × Int)
 | 0, _, _, _, _ => none
 | k + 1, x8, x11, x70, x71 => if x71 < x70 then ((tests_faults_has.f x8 x71).bind fun t511 => (if t511 = true then (if x11.length < 17592186044416 then (tests_Left.l1 k x8 (x11 ++ [x71]) x70 (wrap64 (x71 + 1))) else (none)) else (tests_Left.l1 k x8 x11 x70 (wrap64 (x71 + 1))))) else (some (x11, 0))
end
def tests_Left.f (k : Nat) (l0_0 : List Int) (l0_1 : List (List Int)) (l0_2 : List Int) (l1 : List (S53)) : Option (List Int × Int) := (tests_newTrial.f k l0_0 l0_1 l0_2).bind fun bt490 => (if bt490.2.2.2.2.2 = 0 then (tests_Left.j0 k l1 (decide ((l1.length : Int) > 100)) bt490.1 bt490.2.1 bt490.2.2.1 bt490.2.2.2.1 bt490.2.2.2.2.1) else (tests_Left.j0 k l1 true bt490.1 bt490.2.1 bt490.2.2.1 bt490.2.2.2.1 bt490.2.2.2.2.1))
set_option maxHeartbeats 8000000 in
set_option maxRecDepth 100000 in
theorem tests_Left.calls (k : Nat) (A0_0 : Option Addr) (c0_0 : Nat) (l0_0 : List Int) (A0_1 : Option Addr) (c0_1 : Nat) (l0_1 : List (List Int)) (A0_2 : Option Addr) (c0_2 : Nat) (l0_2 : List Int) (A1 : Option Addr) (c1 : Nat) (l1 : List (S53)) (r1 : List Int) (r2 : Int) (w : World) (hr0_0 : Kd.C (Kd.int .i64) w A0_0 l0_0.length l0_0) (hc0_0 : l0_0.length ≤ c0_0) (hr0_1 : Kd.C (Kd.slice 3 (Kd.int .i64)) w A0_1 l0_1.length l0_1) (hc0_1 : l0_1.length ≤ c0_1) (hr0_2 : Kd.C (Kd.int .i64) w A0_2 l0_2.length l0_2) (hc0_2 : l0_2.length ≤ c0_2) (hr1 : Kd.C k53 w A1 l1.length l1) (hc1 : l1.length ≤ c1) (h : tests_Left.f k l0_0 l0_1 l0_2 l1 = some (r1, r2)) :
  Calls Tryd.prog 31 #[.agg #[.slice A0_0 l0_0.length c0_0, .slice A0_1 l0_1.length c0_1, .slice A0_2 l0_2.length c0_2], .slice A1 l1.length c1] w fun e w' => ∃ v0_ : Value, e = .returned (.tuple #[v0_, .int .i64 r2]) ∧ Kd.R (Kd.int .i64) 3 w' w.heap.size (fun _ => True) v0_ r1 ∧ Below w.heap.size w w' := by
 have hu25 := Tryd.underlying25
 have hu77 := Tryd.underlying77
 have hu53 := Tryd.underlying53
 have HR0_0 := Aside0.mk hr0_0
 have HC0_0 := Aside0.mk hc0_0
 clear hr0_0 hc0_0
 have HR0_1 := Aside0.mk hr0_1
 have HC0_1 := Aside0.mk hc0_1
 clear hr0_1 hc0_1
 have HR0_2 := Aside0.mk hr0_2
 have HC0_2 := Aside0.mk hc0_2
 clear hr0_2 hc0_2
 have HR1 := Aside0.mk hr1
 have HC1 := Aside0.mk hc1
 clear hr1 hc1
 have HB := Aside0.mk (Below.refl w.heap.size w)
 have H : ((tests_newTrial.f k l0_0 l0_1 l0_2).bind fun bt490 => (if bt490.2.2.2.2.2 = 0 then (tests_Left.j0 k l1 (decide ((l1.length : Int) > 100)) bt490.1 bt490.2.1 bt490.2.2.1 bt490.2.2.2.1 bt490.2.2.2.2.1) else (tests_Left.j0 k l1 true bt490.1 bt490.2.1 bt490.2.2.1 bt490.2.2.2.1 bt490.2.2.2.2.1))) = some (r1, r2) := h
 clear h
 replace H := Option.bind_eq_some_iff.mp H
 obtain ⟨⟨t490, t493, t496, t499, t502, t503⟩, A30, H⟩ := H
 replace H : (if t503 = 0 then (tests_Left.j0 k l1 (decide ((l1.length : Int) > 100)) t490 t493 t496 t499 t502) else (tests_Left.j0 k l1 true t490 t493 t496 t499 t502)) = some (r1, r2) := H
 have A3 := Aside0.mk A30
 clear A30
 have HC4 := Aside0.mk H
 clear H
 go_enter Tryd.func31, Tryd.ntmps31
 go_upto_region 2 with (first | ((with_reducible refine gate_dst (N := 2) rfl ?_); (try (refine gate_guard (by rfl) ?_; dsimp only)); refine box_event ?hg (N := 2) ?hd (cs := #[.slice A0_0 l0_0.length c0_0, .slice A0_1 l0_1.length c0_1, .slice A0_2 l0_2.length c0_2]) (t := 25) ?hr ?_; (case hd => rfl); (case hg => rfl); (case hr => first | (go_simp; done) | (go_simp; rfl)); intro gb489 hg w5 hbox hb; have n0_ := Aside0.mk (below_step bz hb); have n1_ := Aside0.mk (hbox); have n2_ := Aside0.mk ((by rw [hg]; exact (below_size bz) : w.heap.size ≤ gb489)); have n3_ := Aside0.mk ((by rw [hg]; exact (below_size bz) : w.heap.size ≤ gb489)); clear HB; have HB := n0_; have BK489 := n1_; have GW489 := n2_; have GE489 := n3_; clear n0_ n1_ n2_ n3_; clear hb hbox hg; have hcz6_0 : w5.cell? ⟨gb489, 0, none⟩ = some (.slice A0_0 l0_0.length c0_0) := (blk_cell BK489.out 0).trans rfl; have hcz6_1 : w5.cell? ⟨gb489, 1, none⟩ = some (.slice A0_1 l0_1.length c0_1) := (blk_cell BK489.out 1).trans rfl; have hcz6_2 : w5.cell? ⟨gb489, 2, none⟩ = some (.slice A0_2 l0_2.length c0_2) := (blk_cell BK489.out 2).trans rfl; have hfz6_0 := blk_frozen BK489.out 0; have hfz6_1 := blk_frozen BK489.out 1; have hfz6_2 := blk_frozen BK489.out 2) | ((with_reducible refine gate_callee (f := 45) rfl ?_); refine goesL_ (some 15) rfl rfl Tryd.func45 (by kernel_rfl) rfl #[.agg #[.slice A0_0 l0_0.length c0_0, .slice A0_1 l0_1.length c0_1, .slice A0_2 l0_2.length c0_2]] rfl dz ?_; (with_reducible refine (tests_newTrial.calls k (fun k_ => k_ < w.heap.size) _ _ l0_0 (fun k_ => k_ < w.heap.size) _ _ l0_1 (fun k_ => k_ < w.heap.size) _ _ l0_2 t490 t493 t496 t499 t502 t503 _ ?side1 ?side2 ?side3 A3.out).mono ?_); (case side1 => exact Kd.V_mk HC0_0.out (Kd.F_below (Kd.C_F (Kd.heap_int .i64) HR0_0.out) bz)); (case side2 => exact Kd.V_mk HC0_1.out (Kd.F_below (Kd.C_F (Kd.heap_slice 3 (Kd.heap_int .i64)) HR0_1.out) bz)); (case side3 => exact Kd.V_mk HC0_2.out (Kd.F_below (Kd.C_F (Kd.heap_int .i64) HR0_2.out) bz)); rintro e w7 ⟨v491, v494, v497, v500, rfl, ho0, ho1, ho2, ho3, hb⟩; refine ⟨_, rfl, ?_⟩; have n0_ := Aside0.mk (Kd.V_lower (Kd.V_mono (ok' := fun k_ => some k_ ≠ (v500 : Value).ownBlock ∧ k_ ≠ gb489) ho0 (fun k_ hk_ => ⟨hk_.2, Or.elim hk_.1 (fun hs_ => Or.elim hs_ (fun hs_ => fun e_ => Nat.not_le.2 hs_ (by rw [e_]; exact GW489.out)) (fun hs_ => Or.elim hs_ (fun hs_ => fun e_ => Nat.not_le.2 hs_ (by rw [e_]; exact GW489.out)) (fun hs_ => fun e_ => Nat.not_le.2 hs_ (by rw [e_]; exact GW489.out)))) (fun hn_ => (Kd.freshB (g := gb489) (o := .cells #[.slice A0_0 l0_0.length c0_0, .slice A0_1 l0_1.length c0_1, .slice A0_2 l0_2.length c0_2] 25 (0, 0)) (kz BK489.out) k_ hn_))⟩)) (below_size bz)); have n1_ := Aside0.mk (Kd.V_lower (Kd.V_mono (ok' := fun k_ => some k_ ≠ (v500 : Value).ownBlock ∧ k_ ≠ gb489) ho1 (fun k_ hk_ => ⟨hk_.2, Or.elim hk_.1 (fun hs_ => Or.elim hs_ (fun hs_ => fun e_ => Nat.not_le.2 hs_ (by rw [e_]; exact GW489.out)) (fun hs_ => Or.elim hs_ (fun hs_ => fun e_ => Nat.not_le.2 hs_ (by rw [e_]; exact GW489.out)) (fun hs_ => fun e_ => Nat.not_le.2 hs_ (by rw [e_]; exact GW489.out)))) (fun hn_ => (Kd.freshB (g := gb489) (o := .cells #[.slice A0_0 l0_0.length c0_0, .slice A0_1 l0_1.length c0_1, .slice A0_2 l0_2.length c0_2] 25 (0, 0)) (kz BK489.out) k_ hn_))⟩)) (below_size bz)); have n2_ := Aside0.mk (Kd.V_lower (Kd.V_mono (ok' := fun k_ => some k_ ≠ (v500 : Value).ownBlock ∧ k_ ≠ gb489) ho2 (fun k_ hk_ => ⟨hk_.2, Or.elim hk_.1 (fun hs_ => Or.elim hs_ (fun hs_ => fun e_ => Nat.not_le.2 hs_ (by rw [e_]; exact GW489.out)) (fun hs_ => Or.elim hs_ (fun hs_ => fun e_ => Nat.not_le.2 hs_ (by rw [e_]; exact GW489.out)) (fun hs_ => fun e_ => Nat.not_le.2 hs_ (by rw [e_]; exact GW489.out)))) (fun hn_ => (Kd.freshB (g := gb489) (o := .cells #[.slice A0_0 l0_0.length c0_0, .slice A0_1 l0_1.length c0_1, .slice A0_2 l0_2.length c0_2] 25 (0, 0)) (kz BK489.out) k_ hn_))⟩)) (below_size bz)); have n3_ := Aside0.mk (Kd.R_lower (Kd.R_mono (ok' := fun k_ => True) ho3 (fun _ hk_ => trivial)) (below_size bz)); have n4_ := Aside0.mk (kb BK489.out hb); have n5_ := Aside0.mk (below_step bz hb); clear BK489; clear HB; have HO492 := n0_; have HO495 := n1_; have HO498 := n2_; have HO501 := n3_; have BK489 := n4_; have HB := n5_; clear n0_ n1_ n2_ n3_ n4_ n5_; (try clear hb); (try clear hb2); (try clear hk); (try clear hi); (try clear ho0); (try clear ho1); (try clear ho2); (try clear ho3)) | ((with_reducible refine gate_dst (N := 6) rfl ?_); (try (refine gate_guard (by rfl) ?_; dsimp only)); refine box_event ?hg (N := 6) ?hd (cs := #[.slice none 0 0, .slice none 0 0, .slice none 0 0, .slice none 0 0, .int .u64 0]) (t := 77) ?hr ?_; (case hd => rfl); (case hg => rfl); (case hr => first | (go_simp; done) | (go_simp; rfl)); intro gb504 hg w8 hbox hb; have n0_ := Aside0.mk (Kd.V_below (Kd.V_elderB (by (with_reducible repeat (first | apply Kd.V_alloc | apply Kd.V_drewN | apply Kd.V_drew)); exact HO492.out) gb504 (Nat.le_of_eq hg.symm)) hb); have n1_ := Aside0.mk (Kd.V_below (Kd.V_elderB (by (with_reducible repeat (first | apply Kd.V_alloc | apply Kd.V_drewN | apply Kd.V_drew)); exact HO495.out) gb504 (Nat.le_of_eq hg.symm)) hb); have n2_ := Aside0.mk (Kd.V_below (Kd.V_elderB (by (with_reducible repeat (first | apply Kd.V_alloc | apply Kd.V_drewN | apply Kd.V_drew)); exact HO498.out) gb504 (Nat.le_of_eq hg.symm)) hb); have n3_ := Aside0.mk (Kd.R_below (rz HO501.out) hb); have n4_ := Aside0.mk (kb BK489.out hb); have n5_ := Aside0.mk (below_step bz hb); have n6_ := Aside0.mk (hbox); have n7_ := Aside0.mk ((by rw [hg]; exact (below_size bz) : w.heap.size ≤ gb504)); have n8_ := Aside0.mk ((by rw [hg]; exact (below_size bz) : w.heap.size ≤ gb504)); have n9_ := Aside0.mk ((by rw [hg]; exact Nat.ne_of_lt (kl BK489.out) : gb489 ≠ gb504)); have n10_ := Aside0.mk ((by rw [hg]; exact Nat.ne_of_gt (kl BK489.out) : gb504 ≠ gb489)); clear HO492; clear HO495; clear HO498; clear HO501; clear BK489; clear HB; have HO492 := n0_; have HO495 := n1_; have HO498 := n2_; have HO501 := n3_; have BK489 := n4_; have HB := n5_; have BK504 := n6_; have GW504 := n7_; have GE504 := n8_; have NB489_504 := n9_; have NB504_489 := n10_; clear n0_ n1_ n2_ n3_ n4_ n5_ n6_ n7_ n8_ n9_ n10_; clear hb hbox hg; obtain ⟨Ao9, co9, eo9⟩ := Kd.V_slice HO492.out; subst eo9; have hnb10 := NB504_489.out; have hnc10 := NB489_504.out; have hcz11_0 : w8.cell? ⟨gb504, 0, none⟩ = some (.slice none 0 0) := (blk_cell BK504.out 0).trans rfl; have hcz11_1 : w8.cell? ⟨gb504, 1, none⟩ = some (.slice none 0 0) := (blk_cell BK504.out 1).trans rfl; have hcz11_2 : w8.cell? ⟨gb504, 2, none⟩ = some (.slice none 0 0) := (blk_cell BK504.out 2).trans rfl; have hcz11_3 : w8.cell? ⟨gb504, 3, none⟩ = some (.slice none 0 0) := (blk_cell BK504.out 3).trans rfl; have hcz11_4 : w8.cell? ⟨gb504, 4, none⟩ = some (.int .u64 0) := (blk_cell BK504.out 4).trans rfl; have hfz11_0 := blk_frozen BK504.out 0; have hfz11_1 := blk_frozen BK504.out 1; have hfz11_2 := blk_frozen BK504.out 2; have hfz11_3 := blk_frozen BK504.out 3; have hfz11_4 := blk_frozen BK504.out 4; obtain ⟨Ao12, co12, eo12⟩ := Kd.V_slice HO495.out; subst eo12; obtain ⟨Ao13, co13, eo13⟩ := Kd.V_slice HO498.out; subst eo13; obtain ⟨Ao14, co14, eo14⟩ := Kd.R_slice HO501.out; subst eo14))
 (try simp only [Act.put, List.setIfInBounds_toArray, List.set_cons_zero, List.set_cons_succ])
 go_cut [24] (fun v24 wc => ∃ (kq : Nat) (x24_3 : Bool), v24 = .bool x24_3 ∧ Aside0 (tests_Left.j0 kq l1 x24_3 t490 t493 t496 t499 t502 = some (r1, r2)) ∧ Aside0 (kq ≤ k) ∧ Aside0 (Kd.V (Kd.int .i64) 3 wc w.heap.size (fun k_ => some k_ ≠ ((.slice Ao14 t499.length co14) : Value).ownBlock ∧ k_ ≠ gb489 ∧ k_ ≠ gb504) (.slice Ao9 t490.length co9) t490) ∧ Aside0 (Kd.V (Kd.slice 3 (Kd.int .i64)) 22 wc w.heap.size (fun k_ => some k_ ≠ ((.slice Ao14 t499.length co14) : Value).ownBlock ∧ k_ ≠ gb489 ∧ k_ ≠ gb504) (.slice Ao12 t493.length co12) t493) ∧ Aside0 (Kd.V (Kd.int .i64) 3 wc w.heap.size (fun k_ => some k_ ≠ ((.slice Ao14 t499.length co14) : Value).ownBlock ∧ k_ ≠ gb489 ∧ k_ ≠ gb504) (.slice Ao13 t496.length co13) t496) ∧ Aside0 (Kd.R (Kd.int .u64) 75 wc w.heap.size (fun _ => True) (.slice Ao14 t499.length co14) t499) ∧ Aside0 (wc.heap[gb489]? = some (.cells #[(.slice A0_0 l0_0.length c0_0), (.slice A0_1 l0_1.length c0_1), (.slice A0_2 l0_2.length c0_2)] 25 (0, 0))) ∧ Aside0 (wc.heap[gb504]? = some (.cells #[(.slice Ao9 t490.length co9), (.slice Ao12 t493.length co12), (.slice Ao13 t496.length co13), (.slice Ao14 t499.length co14), .int .u64 t502] 77 (0, 0))) ∧ Aside0 (Below w.heap.size w wc))
 case first =>
  have H := HC4.out
  clear HC4
  by_cases c15 : t503 = 0
  ·rw [if_pos c15] at H
   have c15b0 : (t503 == 0) = true := beq_iff_eq.mpr c15
   have c15b1 : (t503 != 0) = false := bne_eq_false_iff_eq.mpr c15
   clear c15
   (first | rw [c15b0] | (simp only [i64_w, i32_w]; rw [c15b0]) | skip)
   have H' := Aside0.mk H
   clear H
   go_wp2
   go_meet
   case rel => exact ⟨_, (decide ((l1.length : Int) > 100)), (by first | rfl | (simp; done) | (simp [*]; done)), H', ⟨by first | omega | exact Nat.le_refl _⟩, ⟨by (with_reducible repeat (first | apply Kd.V_alloc | apply Kd.V_drewN | apply Kd.V_drew)); exact Kd.V_mono (Kd.V_far (p := ⟨gb504, 4, none⟩) (Kd.V_far (p := ⟨gb504, 3, none⟩) (Kd.V_far (p := ⟨gb504, 2, none⟩) (Kd.V_far (p := ⟨gb504, 1, none⟩) (Kd.V_far (p := ⟨gb504, 0, none⟩) (Kd.V_mono HO492.out (fun k_ hk => (⟨hk, hk.2⟩ : _ ∧ k_ ≠ gb504))) (fun _ hk => hk.2) (.slice Ao9 t490.length co9)) (fun _ hk => hk.2) (.slice Ao12 t493.length co12)) (fun _ hk => hk.2) (.slice Ao13 t496.length co13)) (fun _ hk => hk.2) (.slice Ao14 t499.length co14)) (fun _ hk => hk.2) (.int .u64 t502)) (fun _ hk => ⟨hk.1.1.1, ⟨hk.1.1.2, hk.1.2⟩⟩)⟩, ⟨by (with_reducible repeat (first | apply Kd.V_alloc | apply Kd.V_drewN | apply Kd.V_drew)); exact Kd.V_mono (Kd.V_far (p := ⟨gb504, 4, none⟩) (Kd.V_far (p := ⟨gb504, 3, none⟩) (Kd.V_far (p := ⟨gb504, 2, none⟩) (Kd.V_far (p := ⟨gb504, 1, none⟩) (Kd.V_far (p := ⟨gb504, 0, none⟩) (Kd.V_mono HO495.out (fun k_ hk => (⟨hk, hk.2⟩ : _ ∧ k_ ≠ gb504))) (fun _ hk => hk.2) (.slice Ao9 t490.length co9)) (fun _ hk => hk.2) (.slice Ao12 t493.length co12)) (fun _ hk => hk.2) (.slice Ao13 t496.length co13)) (fun _ hk => hk.2) (.slice Ao14 t499.length co14)) (fun _ hk => hk.2) (.int .u64 t502)) (fun _ hk => ⟨hk.1.1.1, ⟨hk.1.1.2, hk.1.2⟩⟩)⟩, ⟨by (with_reducible repeat (first | apply Kd.V_alloc | apply Kd.V_drewN | apply Kd.V_drew)); exact Kd.V_mono (Kd.V_far (p := ⟨gb504, 4, none⟩) (Kd.V_far (p := ⟨gb504, 3, none⟩) (Kd.V_far (p := ⟨gb504, 2, none⟩) (Kd.V_far (p := ⟨gb504, 1, none⟩) (Kd.V_far (p := ⟨gb504, 0, none⟩) (Kd.V_mono HO498.out (fun k_ hk => (⟨hk, hk.2⟩ : _ ∧ k_ ≠ gb504))) (fun _ hk => hk.2) (.slice Ao9 t490.length co9)) (fun _ hk => hk.2) (.slice Ao12 t493.length co12)) (fun _ hk => hk.2) (.slice Ao13 t496.length co13)) (fun _ hk => hk.2) (.slice Ao14 t499.length co14)) (fun _ hk => hk.2) (.int .u64 t502)) (fun _ hk => ⟨hk.1.1.1, ⟨hk.1.1.2, hk.1.2⟩⟩)⟩, ⟨by (with_reducible repeat (first | apply Kd.R_alloc | apply Kd.R_drewN | apply Kd.R_drew)); exact Kd.R_mono (Kd.R_far (p := ⟨gb504, 4, none⟩) (Kd.R_far (p := ⟨gb504, 3, none⟩) (Kd.R_far (p := ⟨gb504, 2, none⟩) (Kd.R_far (p := ⟨gb504, 1, none⟩) (Kd.R_far (p := ⟨gb504, 0, none⟩) (Kd.R_types HO501.out BK504.out (by decide)) (fun _ hk => hk.2) (.slice Ao9 t490.length co9)) (fun _ hk => hk.2) (.slice Ao12 t493.length co12)) (fun _ hk => hk.2) (.slice Ao13 t496.length co13)) (fun _ hk => hk.2) (.slice Ao14 t499.length co14)) (fun _ hk => hk.2) (.int .u64 t502)) (fun _ hk => trivial)⟩, ⟨by (with_reducible repeat (first | refine blk_drewN ?_ _ | refine blk_drew ?_ | refine blk_alloc ?_ _)); refine blk_far ?_ NB489_504.out _; (with_reducible repeat (first | refine blk_drewN ?_ _ | refine blk_drew ?_ | refine blk_alloc ?_ _)); refine blk_far ?_ NB489_504.out _; (with_reducible repeat (first | refine blk_drewN ?_ _ | refine blk_drew ?_ | refine blk_alloc ?_ _)); refine blk_far ?_ NB489_504.out _; (with_reducible repeat (first | refine blk_drewN ?_ _ | refine blk_drew ?_ | refine blk_alloc ?_ _)); refine blk_far ?_ NB489_504.out _; (with_reducible repeat (first | refine blk_drewN ?_ _ | refine blk_drew ?_ | refine blk_alloc ?_ _)); refine blk_far ?_ NB489_504.out _; (with_reducible repeat (first | refine blk_drewN ?_ _ | refine blk_drew ?_ | refine blk_alloc ?_ _)); exact BK489.out⟩, ⟨by (with_reducible repeat (first | refine blk_drewN ?_ _ | refine blk_drew ?_ | refine blk_alloc ?_ _)); refine blk_put (cs := #[.slice Ao9 t490.length co9, .slice Ao12 t493.length co12, .slice Ao13 t496.length co13, .slice Ao14 t499.length co14, .int .u64 0]) ?_ 4 _ rfl; (with_reducible repeat (first | refine blk_drewN ?_ _ | refine blk_drew ?_ | refine blk_alloc ?_ _)); refine blk_put (cs := #[.slice Ao9 t490.length co9, .slice Ao12 t493.length co12, .slice Ao13 t496.length co13, .slice none 0 0, .int .u64 0]) ?_ 3 _ rfl; (with_reducible repeat (first | refine blk_drewN ?_ _ | refine blk_drew ?_ | refine blk_alloc ?_ _)); refine blk_put (cs := #[.slice Ao9 t490.length co9, .slice Ao12 t493.length co12, .slice none 0 0, .slice none 0 0, .int .u64 0]) ?_ 2 _ rfl; (with_reducible repeat (first | refine blk_drewN ?_ _ | refine blk_drew ?_ | refine blk_alloc ?_ _)); refine blk_put (cs := #[.slice Ao9 t490.length co9, .slice none 0 0, .slice none 0 0, .slice none 0 0, .int .u64 0]) ?_ 1 _ rfl; (with_reducible repeat (first | refine blk_drewN ?_ _ | refine blk_drew ?_ | refine blk_alloc ?_ _)); refine blk_put (cs := #[.slice none 0 0, .slice none 0 0, .slice none 0 0, .slice none 0 0, .int .u64 0]) ?_ 0 _ rfl; (with_reducible repeat (first | refine blk_drewN ?_ _ | refine blk_drew ?_ | refine blk_alloc ?_ _)); exact BK504.out⟩, ⟨by repeat (first | (with_reducible first | exact HB.out | apply below_alloc | apply pw_below_drewN | apply below_drew1 | refine below_set ?_ GE489.out | refine below_set ?_ GE504.out) | exact HB.out)⟩⟩
  ·rw [if_neg c15] at H
   have c15b0 : (t503 == 0) = false := beq_eq_false_iff_ne.mpr c15
   have c15b1 : (t503 != 0) = true := bne_iff_ne.mpr c15
   (first | rw [c15b0] | (simp only [i64_w, i32_w]; rw [c15b0]) | skip)
   have H' := Aside0.mk H
   clear H
   go_wp2
   go_meet
   case rel => exact ⟨_, (true), (by first | rfl | (simp; done) | (simp [*]; done)), H', ⟨by first | omega | exact Nat.le_refl _⟩, ⟨by (with_reducible repeat (first | apply Kd.V_alloc | apply Kd.V_drewN | apply Kd.V_drew)); exact Kd.V_mono (Kd.V_far (p := ⟨gb504, 4, none⟩) (Kd.V_far (p := ⟨gb504, 3, none⟩) (Kd.V_far (p := ⟨gb504, 2, none⟩) (Kd.V_far (p := ⟨gb504, 1, none⟩) (Kd.V_far (p := ⟨gb504, 0, none⟩) (Kd.V_mono HO492.out (fun k_ hk => (⟨hk, hk.2⟩ : _ ∧ k_ ≠ gb504))) (fun _ hk => hk.2) (.slice Ao9 t490.length co9)) (fun _ hk => hk.2) (.slice Ao12 t493.length co12)) (fun _ hk => hk.2) (.slice Ao13 t496.length co13)) (fun _ hk => hk.2) (.slice Ao14 t499.length co14)) (fun _ hk => hk.2) (.int .u64 t502)) (fun _ hk => ⟨hk.1.1.1, ⟨hk.1.1.2, hk.1.2⟩⟩)⟩, ⟨by (with_reducible repeat (first | apply Kd.V_alloc | apply Kd.V_drewN | apply Kd.V_drew)); exact Kd.V_mono (Kd.V_far (p := ⟨gb504, 4, none⟩) (Kd.V_far (p := ⟨gb504, 3, none⟩) (Kd.V_far (p := ⟨gb504, 2, none⟩) (Kd.V_far (p := ⟨gb504, 1, none⟩) (Kd.V_far (p := ⟨gb504, 0, none⟩) (Kd.V_mono HO495.out (fun k_ hk => (⟨hk, hk.2⟩ : _ ∧ k_ ≠ gb504))) (fun _ hk => hk.2) (.slice Ao9 t490.length co9)) (fun _ hk => hk.2) (.slice Ao12 t493.length co12)) (fun _ hk => hk.2) (.slice Ao13 t496.length co13)) (fun _ hk => hk.2) (.slice Ao14 t499.length co14)) (fun _ hk => hk.2) (.int .u64 t502)) (fun _ hk => ⟨hk.1.1.1, ⟨hk.1.1.2, hk.1.2⟩⟩)⟩, ⟨by (with_reducible repeat (first | apply Kd.V_alloc | apply Kd.V_drewN | apply Kd.V_drew)); exact Kd.V_mono (Kd.V_far (p := ⟨gb504, 4, none⟩) (Kd.V_far (p := ⟨gb504, 3, none⟩) (Kd.V_far (p := ⟨gb504, 2, none⟩) (Kd.V_far (p := ⟨gb504, 1, none⟩) (Kd.V_far (p := ⟨gb504, 0, none⟩) (Kd.V_mono HO498.out (fun k_ hk => (⟨hk, hk.2⟩ : _ ∧ k_ ≠ gb504))) (fun _ hk => hk.2) (.slice Ao9 t490.length co9)) (fun _ hk => hk.2) (.slice Ao12 t493.length co12)) (fun _ hk => hk.2) (.slice Ao13 t496.length co13)) (fun _ hk => hk.2) (.slice Ao14 t499.length co14)) (fun _ hk => hk.2) (.int .u64 t502)) (fun _ hk => ⟨hk.1.1.1, ⟨hk.1.1.2, hk.1.2⟩⟩)⟩, ⟨by (with_reducible repeat (first | apply Kd.R_alloc | apply Kd.R_drewN | apply Kd.R_drew)); exact Kd.R_mono (Kd.R_far (p := ⟨gb504, 4, none⟩) (Kd.R_far (p := ⟨gb504, 3, none⟩) (Kd.R_far (p := ⟨gb504, 2, none⟩) (Kd.R_far (p := ⟨gb504, 1, none⟩) (Kd.R_far (p := ⟨gb504, 0, none⟩) (Kd.R_types HO501.out BK504.out (by decide)) (fun _ hk => hk.2) (.slice Ao9 t490.length co9)) (fun _ hk => hk.2) (.slice Ao12 t493.length co12)) (fun _ hk => hk.2) (.slice Ao13 t496.length co13)) (fun _ hk => hk.2) (.slice Ao14 t499.length co14)) (fun _ hk => hk.2) (.int .u64 t502)) (fun _ hk => trivial)⟩, ⟨by (with_reducible repeat (first | refine blk_drewN ?_ _ | refine blk_drew ?_ | refine blk_alloc ?_ _)); refine blk_far ?_ NB489_504.out _; (with_reducible repeat (first | refine blk_drewN ?_ _ | refine blk_drew ?_ | refine blk_alloc ?_ _)); refine blk_far ?_ NB489_504.out _; (with_reducible repeat (first | refine blk_drewN ?_ _ | refine blk_drew ?_ | refine blk_alloc ?_ _)); refine blk_far ?_ NB489_504.out _; (with_reducible repeat (first | refine blk_drewN ?_ _ | refine blk_drew ?_ | refine blk_alloc ?_ _)); refine blk_far ?_ NB489_504.out _; (with_reducible repeat (first | refine blk_drewN ?_ _ | refine blk_drew ?_ | refine blk_alloc ?_ _)); refine blk_far ?_ NB489_504.out _; (with_reducible repeat (first | refine blk_drewN ?_ _ | refine blk_drew ?_ | refine blk_alloc ?_ _)); exact BK489.out⟩, ⟨by (with_reducible repeat (first | refine blk_drewN ?_ _ | refine blk_drew ?_ | refine blk_alloc ?_ _)); refine blk_put (cs := #[.slice Ao9 t490.length co9, .slice Ao12 t493.length co12, .slice Ao13 t496.length co13, .slice Ao14 t499.length co14, .int .u64 0]) ?_ 4 _ rfl; (with_reducible repeat (first | refine blk_drewN ?_ _ | refine blk_drew ?_ | refine blk_alloc ?_ _)); refine blk_put (cs := #[.slice Ao9 t490.length co9, .slice Ao12 t493.length co12, .slice Ao13 t496.length co13, .slice none 0 0, .int .u64 0]) ?_ 3 _ rfl; (with_reducible repeat (first | refine blk_drewN ?_ _ | refine blk_drew ?_ | refine blk_alloc ?_ _)); refine blk_put (cs := #[.slice Ao9 t490.length co9, .slice Ao12 t493.length co12, .slice none 0 0, .slice none 0 0, .int .u64 0]) ?_ 2 _ rfl; (with_reducible repeat (first | refine blk_drewN ?_ _ | refine blk_drew ?_ | refine blk_alloc ?_ _)); refine blk_put (cs := #[.slice Ao9 t490.length co9, .slice none 0 0, .slice none 0 0, .slice none 0 0, .int .u64 0]) ?_ 1 _ rfl; (with_reducible repeat (first | refine blk_drewN ?_ _ | refine blk_drew ?_ | refine blk_alloc ?_ _)); refine blk_put (cs := #[.slice none 0 0, .slice none 0 0, .slice none 0 0, .slice none 0 0, .int .u64 0]) ?_ 0 _ rfl; (with_reducible repeat (first | refine blk_drewN ?_ _ | refine blk_drew ?_ | refine blk_alloc ?_ _)); exact BK504.out⟩, ⟨by repeat (first | (with_reducible first | exact HB.out | apply below_alloc | apply pw_below_drewN | apply below_drew1 | refine below_set ?_ GE489.out | refine below_set ?_ GE504.out) | exact HB.out)⟩⟩
 case rest =>
  clear HC4
  try clear c1
  try clear p2
  try clear c3
  try clear c4
  try clear c10
  try clear c15
  try clear c15b0
  try clear c15b1
  try clear hcz11_0
  try clear hcz11_1
  try clear hcz11_2
  try clear hcz11_3
  try clear hcz11_4
  try clear hcz6_0
  try clear hcz6_1
  try clear hcz6_2
  try clear hfz11_0
  try clear hfz11_1
  try clear hfz11_2
  try clear hfz11_3
  try clear hfz11_4
  try clear hfz6_0
  try clear hfz6_1
  try clear hfz6_2
  obtain ⟨kq, x24_3, rfl, HA, HJ3, HO_505000, HO_505001, HO_505002, HO_505003, BK489, BK504, HB⟩ := hcut
  cases kq with
  | zero => exact absurd HA.out (by simp [tests_Left.j0])
  | succ kj3 =>
   have H := HA.out
   clear HA
   simp only [tests_Left.j0] at H
   by_cases c16 : x24_3 = true
   ·subst c16
    have H1 : (some (([] : List Int), 2)) = some (r1, r2) := by rw [if_pos rfl] at H; exact H
    clear H
    have H := H1
    clear H1
    simp only [Option.some.injEq, Prod.mk.injEq] at H
    obtain ⟨rfl, rfl⟩ := H
    go_wp2
    go_ret2
    exact ⟨_, by first | rfl | (simp [errW_none, errW_some] <;> rfl) | (simp [*, errW_none, errW_some] <;> rfl), by first | exact Kd.R_nil _ _ _ _ _ | exact Kd.N_nil _ _ _ _ _ | exact Kd.V_nil _ _ _ _ _ | exact Kd.Q_nil _ _ _ _ _ | exact Kd.S_nil _ _ _ _ _, by repeat (first | (with_reducible first | exact HB.out | apply below_alloc | apply pw_below_drewN | apply below_drew1 | refine below_set ?_ GE489.out | refine below_set ?_ GE504.out) | exact HB.out)⟩
   ·replace c16 := Bool.eq_false_iff.mpr c16
    subst c16
    have H1 : (tests_Left.l0 kj3 t502 l1 (l1.length : Int) 0 t490 t493 t496 t499 t502) = some (r1, r2) := by rw [if_neg (show ¬ (false = true) by decide)] at H; exact H
    clear H
    have H := H1
    clear H1
    have H' := Aside0.mk H
    clear H
    have hnb17 := NB504_489.out
    have hnc17 := NB489_504.out
    have hcz18_0 : wc.cell? ⟨gb504, 0, none⟩ = some (.slice Ao9 t490.length co9) := (blk_cell BK504.out 0).trans rfl
    have hcz18_1 : wc.cell? ⟨gb504, 1, none⟩ = some (.slice Ao12 t493.length co12) := (blk_cell BK504.out 1).trans rfl
    have hcz18_2 : wc.cell? ⟨gb504, 2, none⟩ = some (.slice Ao13 t496.length co13) := (blk_cell BK504.out 2).trans rfl
    have hcz18_3 : wc.cell? ⟨gb504, 3, none⟩ = some (.slice Ao14 t499.length co14) := (blk_cell BK504.out 3).trans rfl
    have hcz18_4 : wc.cell? ⟨gb504, 4, none⟩ = some (.int .u64 t502) := (blk_cell BK504.out 4).trans rfl
    have hfz18_0 := blk_frozen BK504.out 0
    have hfz18_1 := blk_frozen BK504.out 1
    have hfz18_2 := blk_frozen BK504.out 2
    have hfz18_3 := blk_frozen BK504.out 3
    have hfz18_4 := blk_frozen BK504.out 4
    go_wp2
    go_loopg [8, 29] kj3 (fun kq v8 v29 w' => ∃ (x8_2 : Int) (x29_2 : Int), v8 = .int .u64 x8_2 ∧ v29 = .int .i64 x29_2 ∧ Aside0 (tests_Left.l0 kq x8_2 l1 (l1.length : Int) x29_2 t490 t493 t496 t499 t502 = some (r1, r2)) ∧ Aside0 (kq ≤ kj3) ∧ Aside0 (Kd.V (Kd.int .i64) 3 w' w.heap.size (fun k_ => some k_ ≠ ((.slice Ao14 t499.length co14) : Value).ownBlock ∧ k_ ≠ gb489 ∧ k_ ≠ gb504) (.slice Ao9 t490.length co9) t490) ∧ Aside0 (Kd.V (Kd.slice 3 (Kd.int .i64)) 22 w' w.heap.size (fun k_ => some k_ ≠ ((.slice Ao14 t499.length co14) : Value).ownBlock ∧ k_ ≠ gb489 ∧ k_ ≠ gb504) (.slice Ao12 t493.length co12) t493) ∧ Aside0 (Kd.V (Kd.int .i64) 3 w' w.heap.size (fun k_ => some k_ ≠ ((.slice Ao14 t499.length co14) : Value).ownBlock ∧ k_ ≠ gb489 ∧ k_ ≠ gb504) (.slice Ao13 t496.length co13) t496) ∧ Aside0 (Kd.R (Kd.int .u64) 75 w' w.heap.size (fun _ => True) (.slice Ao14 t499.length co14) t499) ∧ Aside0 (w'.heap[gb489]? = some (.cells #[(.slice A0_0 l0_0.length c0_0), (.slice A0_1 l0_1.length c0_1), (.slice A0_2 l0_2.length c0_2)] 25 (0, 0))) ∧ Aside0 (w'.heap[gb504]? = some (.cells #[(.slice Ao9 t490.length co9), (.slice Ao12 t493.length co12), (.slice Ao13 t496.length co13), (.slice Ao14 t499.length co14), .int .u64 t502] 77 (0, 0))) ∧ Aside0 (Below w.heap.size w w'))
    case atStart => exact ⟨(t502), (0), (by first | rfl | (simp; done) | (simp [*]; done)), (by first | rfl | (simp; done) | (simp [*]; done)), H', ⟨Nat.le_refl _⟩, ⟨by (with_reducible repeat (first | apply Kd.V_alloc | apply Kd.V_drewN | apply Kd.V_drew)); exact HO_505000.out⟩, ⟨by (with_reducible repeat (first | apply Kd.V_alloc | apply Kd.V_drewN | apply Kd.V_drew)); exact HO_505001.out⟩, ⟨by (with_reducible repeat (first | apply Kd.V_alloc | apply Kd.V_drewN | apply Kd.V_drew)); exact HO_505002.out⟩, ⟨by (with_reducible repeat (first | apply Kd.R_alloc | apply Kd.R_drewN | apply Kd.R_drew)); exact HO_505003.out⟩, ⟨by (with_reducible repeat (first | refine blk_drewN ?_ _ | refine blk_drew ?_ | refine blk_alloc ?_ _)); exact BK489.out⟩, ⟨by (with_reducible repeat (first | refine blk_drewN ?_ _ | refine blk_drew ?_ | refine blk_alloc ?_ _)); exact BK504.out⟩, ⟨by repeat (first | (with_reducible first | exact HB.out | apply below_alloc | apply pw_below_drewN | apply below_drew1 | refine below_set ?_ GE489.out | refine below_set ?_ GE504.out) | exact HB.out)⟩⟩
    case round =>
     clear H'
     try clear c1
     try clear p2
     try clear c3
     try clear c4
     try clear c10
     try clear c15
     try clear c15b0
     try clear c15b1
     try clear c16
     try clear c17
     try clear hcz11_0
     try clear hcz11_1
     try clear hcz11_2
     try clear hcz11_3
     try clear hcz11_4
     try clear hcz18_0
     try clear hcz18_1
     try clear hcz18_2
     try clear hcz18_3
     try clear hcz18_4
     try clear hcz6_0
     try clear hcz6_1
     try clear hcz6_2
     try clear hfz11_0
     try clear hfz11_1
     try clear hfz11_2
     try clear hfz11_3
     try clear hfz11_4
     try clear hfz18_0
     try clear hfz18_1
     try clear hfz18_2
     try clear hfz18_3
     try clear hfz18_4
     try clear hfz6_0
     try clear hfz6_1
     try clear hfz6_2
     try clear p2
     obtain ⟨x8_2, x29_2, rfl, rfl, HA, HK2, HO_505000, HO_505001, HO_505002, HO_505003, BK489, BK504, HB⟩ := hrel
     cases gk with
     | zero => exact absurd HA.out (by simp [tests_Left.l0])
     | succ k2 =>
      have H := HA.out
      clear HA
      simp only [tests_Left.l0] at H
      by_cases c19 : x29_2 < (l1.length : Int)
      ·rw [if_pos c19] at H
       have c19b0 : decide (x29_2 < (l1.length : Int)) = true := decide_eq_true c19
       clear c19
       by_cases c20 : 0 ≤ x29_2
       ·rw [if_pos c20] at H
        have c20b0 : decide (0 ≤ x29_2) = true := decide_eq_true c20
        clear c20
        by_cases c21 : x29_2 < (l1.length : Int)
        ·rw [if_pos c21] at H
         have c21b0 : decide (x29_2 < (l1.length : Int)) = true := decide_eq_true c21
         clear c21
         have HC22 := Aside0.mk H
         clear H
         have p505 : 0 ≤ (x29_2 : Int) := of_decide_eq_true az
         have q505 : x29_2 < (l1.length : Int) := of_decide_eq_true az
         obtain ⟨ad505, e505, hx505_0, hx505_1⟩ := at_T53 HR1.out x29_2 p505 q505
         cases e505
         replace hx505_0 := (HB.out.cell (World.block_lt_of_cell? w _ hx505_0)).trans hx505_0
         replace hx505_1 := (HB.out.cell (World.block_lt_of_cell? w _ hx505_1)).trans hx505_1
         replace p505 := eq_true p505
         replace q505 := eq_true q505
         go_upto_region 8 with (first | ((with_reducible refine gate_dst (N := 10) rfl ?_); (try (refine gate_guard (by rfl) ?_; dsimp only)); refine box_event ?hg (N := 10) ?hd (cs := #[.int .i64 0, .int .i64 0]) (t := 53) ?hr ?_; (case hd => rfl); (case hg => rfl); (case hr => first | (go_simp; done) | (go_simp; rfl)); intro gb506 hg w23 hbox hb; have n0_ := Aside0.mk (Kd.V_below (Kd.V_elderB (by (with_reducible repeat (first | apply Kd.V_alloc | apply Kd.V_drewN | apply Kd.V_drew)); exact HO_505000.out) gb506 (Nat.le_of_eq hg.symm)) hb); have n1_ := Aside0.mk (Kd.V_below (Kd.V_elderB (by (with_reducible repeat (first | apply Kd.V_alloc | apply Kd.V_drewN | apply Kd.V_drew)); exact HO_505001.out) gb506 (Nat.le_of_eq hg.symm)) hb); have n2_ := Aside0.mk (Kd.V_below (Kd.V_elderB (by (with_reducible repeat (first | apply Kd.V_alloc | apply Kd.V_drewN | apply Kd.V_drew)); exact HO_505002.out) gb506 (Nat.le_of_eq hg.symm)) hb); have n3_ := Aside0.mk (Kd.R_below (rz HO_505003.out) hb); have n4_ := Aside0.mk (kb BK489.out hb); have n5_ := Aside0.mk (kb BK504.out hb); have n6_ := Aside0.mk (below_step bz hb); have n7_ := Aside0.mk (hbox); have n8_ := Aside0.mk ((by rw [hg]; exact (below_size bz) : w.heap.size ≤ gb506)); have n9_ := Aside0.mk ((by rw [hg]; exact (below_size bz) : w.heap.size ≤ gb506)); have n10_ := Aside0.mk ((by rw [hg]; exact Nat.ne_of_lt (kl BK489.out) : gb489 ≠ gb506)); have n11_ := Aside0.mk ((by rw [hg]; exact Nat.ne_of_gt (kl BK489.out) : gb506 ≠ gb489)); have n12_ := Aside0.mk ((by rw [hg]; exact Nat.ne_of_lt (kl BK504.out) : gb504 ≠ gb506)); have n13_ := Aside0.mk ((by rw [hg]; exact Nat.ne_of_gt (kl BK504.out) : gb506 ≠ gb504)); clear HO_505000; clear HO_505001; clear HO_505002; clear HO_505003; clear BK489; clear BK504; clear HB; have HO_505000 := n0_; have HO_505001 := n1_; have HO_505002 := n2_; have HO_505003 := n3_; have BK489 := n4_; have BK504 := n5_; have HB := n6_; have BK506 := n7_; have GW506 := n8_; have GE506 := n9_; have NB489_506 := n10_; have NB506_489 := n11_; have NB504_506 := n12_; have NB506_504 := n13_; clear n0_ n1_ n2_ n3_ n4_ n5_ n6_ n7_ n8_ n9_ n10_ n11_ n12_ n13_; clear hb hbox hg; have hnb24 := NB506_489.out; have hnc24 := NB489_506.out; have hnb25 := NB506_504.out; have hnc25 := NB504_506.out; have hcz26_0 : w23.cell? ⟨gb506, 0, none⟩ = some (.int .i64 0) := (blk_cell BK506.out 0).trans rfl; have hcz26_1 : w23.cell? ⟨gb506, 1, none⟩ = some (.int .i64 0) := (blk_cell BK506.out 1).trans rfl; have hfz26_0 := blk_frozen BK506.out 0; have hfz26_1 := blk_frozen BK506.out 1))
         (try simp only [Act.put, List.setIfInBounds_toArray, List.set_cons_zero, List.set_cons_succ])
         go_cut [46] (fun v46 wc => ∃ (kq : Nat) (x46_21 : Bool), v46 = .bool x46_21 ∧ Aside0 (tests_Left.j2 kq x8_2 l1 (l1.length : Int) x29_2 x46_21 t490 t493 t496 t499 t502 ((rd_T53 l1 x29_2).f0) ((rd_T53 l1 x29_2).f1) = some (r1, r2)) ∧ Aside0 (kq ≤ k2) ∧ Aside0 (Kd.V (Kd.int .i64) 3 wc w.heap.size (fun k_ => some k_ ≠ ((.slice Ao14 t499.length co14) : Value).ownBlock ∧ k_ ≠ gb489 ∧ k_ ≠ gb504 ∧ k_ ≠ gb506) (.slice Ao9 t490.length co9) t490) ∧ Aside0 (Kd.V (Kd.slice 3 (Kd.int .i64)) 22 wc w.heap.size (fun k_ => some k_ ≠ ((.slice Ao14 t499.length co14) : Value).ownBlock ∧ k_ ≠ gb489 ∧ k_ ≠ gb504 ∧ k_ ≠ gb506) (.slice Ao12 t493.length co12) t493) ∧ Aside0 (Kd.V (Kd.int .i64) 3 wc w.heap.size (fun k_ => some k_ ≠ ((.slice Ao14 t499.length co14) : Value).ownBlock ∧ k_ ≠ gb489 ∧ k_ ≠ gb504 ∧ k_ ≠ gb506) (.slice Ao13 t496.length co13) t496) ∧ Aside0 (Kd.R (Kd.int .u64) 75 wc w.heap.size (fun _ => True) (.slice Ao14 t499.length co14) t499) ∧ Aside0 (wc.heap[gb489]? = some (.cells #[(.slice A0_0 l0_0.length c0_0), (.slice A0_1 l0_1.length c0_1), (.slice A0_2 l0_2.length c0_2)] 25 (0, 0))) ∧ Aside0 (wc.heap[gb504]? = some (.cells #[(.slice Ao9 t490.length co9), (.slice Ao12 t493.length co12), (.slice Ao13 t496.length co13), (.slice Ao14 t499.length co14), .int .u64 t502] 77 (0, 0))) ∧ Aside0 (wc.heap[gb506]? = some (.cells #[.int .i64 ((rd_T53 l1 x29_2).f0), .int .i64 ((rd_T53 l1 x29_2).f1)] 53 (0, 0))) ∧ Aside0 (Below w.heap.size w wc))
         case first =>
          have H := HC22.out
          clear HC22
          replace H := Option.bind_eq_some_iff.mp H
          obtain ⟨t507, A270, H⟩ := H
          replace H : (if t507 = true then ((tests_within.f ((rd_T53 l1 x29_2).f1) 0 1).bind fun t508 => (tests_Left.j2 k2 x8_2 l1 (l1.length : Int) x29_2 (!t508) t490 t493 t496 t499 t502 ((rd_T53 l1 x29_2).f0) ((rd_T53 l1 x29_2).f1))) else (tests_Left.j2 k2 x8_2 l1 (l1.length : Int) x29_2 true t490 t493 t496 t499 t502 ((rd_T53 l1 x29_2).f0) ((rd_T53 l1 x29_2).f1))) = some (r1, r2) := H
          have A27 := Aside0.mk A270
          clear A270
          by_cases c28 : t507 = true
          ·subst c28
           have H1 : ((tests_within.f ((rd_T53 l1 x29_2).f1) 0 1).bind fun t508 => (tests_Left.j2 k2 x8_2 l1 (l1.length : Int) x29_2 (!t508) t490 t493 t496 t499 t502 ((rd_T53 l1 x29_2).f0) ((rd_T53 l1 x29_2).f1))) = some (r1, r2) := by rw [if_pos rfl] at H; exact H
           clear H
           have H := H1
           clear H1
           replace H := Option.bind_eq_some_iff.mp H
           obtain ⟨t508, A290, H⟩ := H
           replace H : (tests_Left.j2 k2 x8_2 l1 (l1.length : Int) x29_2 (!t508) t490 t493 t496 t499 t502 ((rd_T53 l1 x29_2).f0) ((rd_T53 l1 x29_2).f1)) = some (r1, r2) := H
           have A29 := Aside0.mk A290
           clear A290
           have H' := Aside0.mk H
           clear H
           have hnb30 := NB506_489.out
           have hnc30 := NB489_506.out
           have hnb31 := NB506_504.out
           have hnc31 := NB504_506.out
           have hcz32_0 : w23.cell? ⟨gb506, 0, none⟩ = some (.int .i64 0) := (blk_cell BK506.out 0).trans rfl
           have hcz32_1 : w23.cell? ⟨gb506, 1, none⟩ = some (.int .i64 0) := (blk_cell BK506.out 1).trans rfl
           have hfz32_0 := blk_frozen BK506.out 0
           have hfz32_1 := blk_frozen BK506.out 1
           have hnb33 := NB504_489.out
           have hnc33 := NB489_504.out
           have hcz34_0 : w23.cell? ⟨gb504, 0, none⟩ = some (.slice Ao9 t490.length co9) := (blk_cell BK504.out 0).trans rfl
           have hcz34_1 : w23.cell? ⟨gb504, 1, none⟩ = some (.slice Ao12 t493.length co12) := (blk_cell BK504.out 1).trans rfl
           have hcz34_2 : w23.cell? ⟨gb504, 2, none⟩ = some (.slice Ao13 t496.length co13) := (blk_cell BK504.out 2).trans rfl
           have hcz34_3 : w23.cell? ⟨gb504, 3, none⟩ = some (.slice Ao14 t499.length co14) := (blk_cell BK504.out 3).trans rfl
           have hcz34_4 : w23.cell? ⟨gb504, 4, none⟩ = some (.int .u64 t502) := (blk_cell BK504.out 4).trans rfl
           have hfz34_0 := blk_frozen BK504.out 0
           have hfz34_1 := blk_frozen BK504.out 1
           have hfz34_2 := blk_frozen BK504.out 2
           have hfz34_3 := blk_frozen BK504.out 3
           have hfz34_4 := blk_frozen BK504.out 4
           go_wp2_with (first | ((with_reducible refine gate_callee (f := 47) rfl ?_); refine goesL_ (some 39) rfl rfl Tryd.func47 (by kernel_rfl) rfl #[.int .i64 ((rd_T53 l1 x29_2).f0), .int .i64 0, .int .i64 (wrap64 ((t499.length : Int) - 1))] rfl dz ?_; (with_reducible refine (tests_within.calls ((rd_T53 l1 x29_2).f0) 0 (wrap64 ((t499.length : Int) - 1)) true _ A27.out).mono ?_); rintro e w' ⟨rfl, ⟨nd, rfl⟩⟩; refine ⟨_, rfl, ?_⟩) | (go_at_call 47; (with_reducible refine (tests_within.calls ((rd_T53 l1 x29_2).f1) 0 1 t508 _ A29.out).mono ?_); rintro e w' ⟨rfl, ⟨nd, rfl⟩⟩))
           go_meet
           case rel => exact ⟨_, (!t508), (by first | rfl | (simp; done) | (simp [*]; done)), H', ⟨by have := HJ3.out; have := HK2.out; first | omega | exact Nat.le_refl _⟩, ⟨by (with_reducible repeat (first | apply Kd.V_alloc | apply Kd.V_drewN | apply Kd.V_drew)); exact Kd.V_mono (Kd.V_far (p := ⟨gb506, 1, none⟩) (Kd.V_far (p := ⟨gb506, 0, none⟩) (Kd.V_mono HO_505000.out (fun k_ hk => (⟨hk, hk.2⟩ : _ ∧ k_ ≠ gb506))) (fun _ hk => hk.2) (.int .i64 ((rd_T53 l1 x29_2).f0))) (fun _ hk => hk.2) (.int .i64 ((rd_T53 l1 x29_2).f1))) (fun _ hk => ⟨hk.1.1.1, ⟨hk.1.1.2.1, ⟨hk.1.1.2.2, hk.1.2⟩⟩⟩)⟩, ⟨by (with_reducible repeat (first | apply Kd.V_alloc | apply Kd.V_drewN | apply Kd.V_drew)); exact Kd.V_mono (Kd.V_far (p := ⟨gb506, 1, none⟩) (Kd.V_far (p := ⟨gb506, 0, none⟩) (Kd.V_mono HO_505001.out (fun k_ hk => (⟨hk, hk.2⟩ : _ ∧ k_ ≠ gb506))) (fun _ hk => hk.2) (.int .i64 ((rd_T53 l1 x29_2).f0))) (fun _ hk => hk.2) (.int .i64 ((rd_T53 l1 x29_2).f1))) (fun _ hk => ⟨hk.1.1.1, ⟨hk.1.1.2.1, ⟨hk.1.1.2.2, hk.1.2⟩⟩⟩)⟩, ⟨by (with_reducible repeat (first | apply Kd.V_alloc | apply Kd.V_drewN | apply Kd.V_drew)); exact Kd.V_mono (Kd.V_far (p := ⟨gb506, 1, none⟩) (Kd.V_far (p := ⟨gb506, 0, none⟩) (Kd.V_mono HO_505002.out (fun k_ hk => (⟨hk, hk.2⟩ : _ ∧ k_ ≠ gb506))) (fun _ hk => hk.2) (.int .i64 ((rd_T53 l1 x29_2).f0))) (fun _ hk => hk.2) (.int .i64 ((rd_T53 l1 x29_2).f1))) (fun _ hk => ⟨hk.1.1.1, ⟨hk.1.1.2.1, ⟨hk.1.1.2.2, hk.1.2⟩⟩⟩)⟩, ⟨by (with_reducible repeat (first | apply Kd.R_alloc | apply Kd.R_drewN | apply Kd.R_drew)); exact Kd.R_mono (Kd.R_far (p := ⟨gb506, 1, none⟩) (Kd.R_far (p := ⟨gb506, 0, none⟩) (Kd.R_types HO_505003.out BK506.out (by decide)) (fun _ hk => hk.2) (.int .i64 ((rd_T53 l1 x29_2).f0))) (fun _ hk => hk.2) (.int .i64 ((rd_T53 l1 x29_2).f1))) (fun _ hk => trivial)⟩, ⟨by (with_reducible repeat (first | refine blk_drewN ?_ _ | refine blk_drew ?_ | refine blk_alloc ?_ _)); refine blk_far ?_ NB489_506.out _; (with_reducible repeat (first | refine blk_drewN ?_ _ | refine blk_drew ?_ | refine blk_alloc ?_ _)); refine blk_far ?_ NB489_506.out _; (with_reducible repeat (first | refine blk_drewN ?_ _ | refine blk_drew ?_ | refine blk_alloc ?_ _)); exact BK489.out⟩, ⟨by (with_reducible repeat (first | refine blk_drewN ?_ _ | refine blk_drew ?_ | refine blk_alloc ?_ _)); refine blk_far ?_ NB504_506.out _; (with_reducible repeat (first | refine blk_drewN ?_ _ | refine blk_drew ?_ | refine blk_alloc ?_ _)); refine blk_far ?_ NB504_506.out _; (with_reducible repeat (first | refine blk_drewN ?_ _ | refine blk_drew ?_ | refine blk_alloc ?_ _)); exact BK504.out⟩, ⟨by (with_reducible repeat (first | refine blk_drewN ?_ _ | refine blk_drew ?_ | refine blk_alloc ?_ _)); refine blk_put (cs := #[.int .i64 ((rd_T53 l1 x29_2).f0), .int .i64 0]) ?_ 1 _ rfl; (with_reducible repeat (first | refine blk_drewN ?_ _ | refine blk_drew ?_ | refine blk_alloc ?_ _)); refine blk_put (cs := #[.int .i64 0, .int .i64 0]) ?_ 0 _ rfl; (with_reducible repeat (first | refine blk_drewN ?_ _ | refine blk_drew ?_ | refine blk_alloc ?_ _)); exact BK506.out⟩, ⟨by repeat (first | (with_reducible first | exact HB.out | apply below_alloc | apply pw_below_drewN | apply below_drew1 | refine below_set ?_ GE489.out | refine below_set ?_ GE504.out | refine below_set ?_ GE506.out) | exact HB.out)⟩⟩
          ·replace c28 := Bool.eq_false_iff.mpr c28
           subst c28
           have H1 : (tests_Left.j2 k2 x8_2 l1 (l1.length : Int) x29_2 true t490 t493 t496 t499 t502 ((rd_T53 l1 x29_2).f0) ((rd_T53 l1 x29_2).f1)) = some (r1, r2) := by rw [if_neg (show ¬ (false = true) by decide)] at H; exact H
           clear H
           have H := H1
           clear H1
           have H' := Aside0.mk H
           clear H
           have hnb35 := NB506_489.out
           have hnc35 := NB489_506.out
           have hnb36 := NB506_504.out
           have hnc36 := NB504_506.out
           have hcz37_0 : w23.cell? ⟨gb506, 0, none⟩ = some (.int .i64 0) := (blk_cell BK506.out 0).trans rfl
           have hcz37_1 : w23.cell? ⟨gb506, 1, none⟩ = some (.int .i64 0) := (blk_cell BK506.out 1).trans rfl
           have hfz37_0 := blk_frozen BK506.out 0
           have hfz37_1 := blk_frozen BK506.out 1
           have hnb38 := NB504_489.out
           have hnc38 := NB489_504.out
           have hcz39_0 : w23.cell? ⟨gb504, 0, none⟩ = some (.slice Ao9 t490.length co9) := (blk_cell BK504.out 0).trans rfl
           have hcz39_1 : w23.cell? ⟨gb504, 1, none⟩ = some (.slice Ao12 t493.length co12) := (blk_cell BK504.out 1).trans rfl
           have hcz39_2 : w23.cell? ⟨gb504, 2, none⟩ = some (.slice Ao13 t496.length co13) := (blk_cell BK504.out 2).trans rfl
           have hcz39_3 : w23.cell? ⟨gb504, 3, none⟩ = some (.slice Ao14 t499.length co14) := (blk_cell BK504.out 3).trans rfl
           have hcz39_4 : w23.cell? ⟨gb504, 4, none⟩ = some (.int .u64 t502) := (blk_cell BK504.out 4).trans rfl
           have hfz39_0 := blk_frozen BK504.out 0
           have hfz39_1 := blk_frozen BK504.out 1
           have hfz39_2 := blk_frozen BK504.out 2
           have hfz39_3 := blk_frozen BK504.out 3
           have hfz39_4 := blk_frozen BK504.out 4
           go_wp2_with (first | ((with_reducible refine gate_callee (f := 47) rfl ?_); refine goesL_ (some 39) rfl rfl Tryd.func47 (by kernel_rfl) rfl #[.int .i64 ((rd_T53 l1 x29_2).f0), .int .i64 0, .int .i64 (wrap64 ((t499.length : Int) - 1))] rfl dz ?_; (with_reducible refine (tests_within.calls ((rd_T53 l1 x29_2).f0) 0 (wrap64 ((t499.length : Int) - 1)) false _ A27.out).mono ?_); rintro e w' ⟨rfl, ⟨nd, rfl⟩⟩; refine ⟨_, rfl, ?_⟩))
           go_meet
           case rel => exact ⟨_, (true), (by first | rfl | (simp; done) | (simp [*]; done)), H', ⟨by have := HJ3.out; have := HK2.out; first | omega | exact Nat.le_refl _⟩, ⟨by (with_reducible repeat (first | apply Kd.V_alloc | apply Kd.V_drewN | apply Kd.V_drew)); exact Kd.V_mono (Kd.V_far (p := ⟨gb506, 1, none⟩) (Kd.V_far (p := ⟨gb506, 0, none⟩) (Kd.V_mono HO_505000.out (fun k_ hk => (⟨hk, hk.2⟩ : _ ∧ k_ ≠ gb506))) (fun _ hk => hk.2) (.int .i64 ((rd_T53 l1 x29_2).f0))) (fun _ hk => hk.2) (.int .i64 ((rd_T53 l1 x29_2).f1))) (fun _ hk => ⟨hk.1.1.1, ⟨hk.1.1.2.1, ⟨hk.1.1.2.2, hk.1.2⟩⟩⟩)⟩, ⟨by (with_reducible repeat (first | apply Kd.V_alloc | apply Kd.V_drewN | apply Kd.V_drew)); exact Kd.V_mono (Kd.V_far (p := ⟨gb506, 1, none⟩) (Kd.V_far (p := ⟨gb506, 0, none⟩) (Kd.V_mono HO_505001.out (fun k_ hk => (⟨hk, hk.2⟩ : _ ∧ k_ ≠ gb506))) (fun _ hk => hk.2) (.int .i64 ((rd_T53 l1 x29_2).f0))) (fun _ hk => hk.2) (.int .i64 ((rd_T53 l1 x29_2).f1))) (fun _ hk => ⟨hk.1.1.1, ⟨hk.1.1.2.1, ⟨hk.1.1.2.2, hk.1.2⟩⟩⟩)⟩, ⟨by (with_reducible repeat (first | apply Kd.V_alloc | apply Kd.V_drewN | apply Kd.V_drew)); exact Kd.V_mono (Kd.V_far (p := ⟨gb506, 1, none⟩) (Kd.V_far (p := ⟨gb506, 0, none⟩) (Kd.V_mono HO_505002.out (fun k_ hk => (⟨hk, hk.2⟩ : _ ∧ k_ ≠ gb506))) (fun _ hk => hk.2) (.int .i64 ((rd_T53 l1 x29_2).f0))) (fun _ hk => hk.2) (.int .i64 ((rd_T53 l1 x29_2).f1))) (fun _ hk => ⟨hk.1.1.1, ⟨hk.1.1.2.1, ⟨hk.1.1.2.2, hk.1.2⟩⟩⟩)⟩, ⟨by (with_reducible repeat (first | apply Kd.R_alloc | apply Kd.R_drewN | apply Kd.R_drew)); exact Kd.R_mono (Kd.R_far (p := ⟨gb506, 1, none⟩) (Kd.R_far (p := ⟨gb506, 0, none⟩) (Kd.R_types HO_505003.out BK506.out (by decide)) (fun _ hk => hk.2) (.int .i64 ((rd_T53 l1 x29_2).f0))) (fun _ hk => hk.2) (.int .i64 ((rd_T53 l1 x29_2).f1))) (fun _ hk => trivial)⟩, ⟨by (with_reducible repeat (first | refine blk_drewN ?_ _ | refine blk_drew ?_ | refine blk_alloc ?_ _)); refine blk_far ?_ NB489_506.out _; (with_reducible repeat (first | refine blk_drewN ?_ _ | refine blk_drew ?_ | refine blk_alloc ?_ _)); refine blk_far ?_ NB489_506.out _; (with_reducible repeat (first | refine blk_drewN ?_ _ | refine blk_drew ?_ | refine blk_alloc ?_ _)); exact BK489.out⟩, ⟨by (with_reducible repeat (first | refine blk_drewN ?_ _ | refine blk_drew ?_ | refine blk_alloc ?_ _)); refine blk_far ?_ NB504_506.out _; (with_reducible repeat (first | refine blk_drewN ?_ _ | refine blk_drew ?_ | refine blk_alloc ?_ _)); refine blk_far ?_ NB504_506.out _; (with_reducible repeat (first | refine blk_drewN ?_ _ | refine blk_drew ?_ | refine blk_alloc ?_ _)); exact BK504.out⟩, ⟨by (with_reducible repeat (first | refine blk_drewN ?_ _ | refine blk_drew ?_ | refine blk_alloc ?_ _)); refine blk_put (cs := #[.int .i64 ((rd_T53 l1 x29_2).f0), .int .i64 0]) ?_ 1 _ rfl; (with_reducible repeat (first | refine blk_drewN ?_ _ | refine blk_drew ?_ | refine blk_alloc ?_ _)); refine blk_put (cs := #[.int .i64 0, .int .i64 0]) ?_ 0 _ rfl; (with_reducible repeat (first | refine blk_drewN ?_ _ | refine blk_drew ?_ | refine blk_alloc ?_ _)); exact BK506.out⟩, ⟨by repeat (first | (with_reducible first | exact HB.out | apply below_alloc | apply pw_below_drewN | apply below_drew1 | refine below_set ?_ GE489.out | refine below_set ?_ GE504.out | refine below_set ?_ GE506.out) | exact HB.out)⟩⟩
         case rest =>
          clear HC22
          try clear c1
          try clear c2
          try clear p2
          try clear c3
          try clear c4
          try clear p5
          try clear q5
          try clear hx5
          try clear p6
          try clear c10
          try clear c15
          try clear c15b0
          try clear c15b1
          try clear c16
          try clear c17
          try clear c19
          try clear c19b0
          try clear c20
          try clear c20b0
          try clear c21
          try clear c21b0
          try clear c24
          try clear c25
          try clear c28
          try clear c30
          try clear c31
          try clear c33
          try clear c35
          try clear c36
          try clear c38
          try clear hcz11_0
          try clear hcz11_1
          try clear hcz11_2
          try clear hcz11_3
          try clear hcz11_4
          try clear hcz18_0
          try clear hcz18_1
          try clear hcz18_2
          try clear hcz18_3
          try clear hcz18_4
          try clear hcz26_0
          try clear hcz26_1
          try clear hcz32_0
          try clear hcz32_1
          try clear hcz34_0
          try clear hcz34_1
          try clear hcz34_2
          try clear hcz34_3
          try clear hcz34_4
          try clear hcz37_0
          try clear hcz37_1
          try clear hcz39_0
          try clear hcz39_1
          try clear hcz39_2
          try clear hcz39_3
          try clear hcz39_4
          try clear hcz6_0
          try clear hcz6_1
          try clear hcz6_2
          try clear hfz11_0
          try clear hfz11_1
          try clear hfz11_2
          try clear hfz11_3
          try clear hfz11_4
          try clear hfz18_0
          try clear hfz18_1
          try clear hfz18_2
          try clear hfz18_3
          try clear hfz18_4
          try clear hfz26_0
          try clear hfz26_1
          try clear hfz32_0
          try clear hfz32_1
          try clear hfz34_0
          try clear hfz34_1
          try clear hfz34_2
          try clear hfz34_3
          try clear hfz34_4
          try clear hfz37_0
          try clear hfz37_1
          try clear hfz39_0
          try clear hfz39_1
          try clear hfz39_2
          try clear hfz39_3
          try clear hfz39_4
          try clear hfz6_0
          try clear hfz6_1
          try clear hfz6_2
          try clear hx505_0
          try clear hx505_1
          try clear p2
          try clear p505
          try clear q505
          obtain ⟨kq, x46_21, rfl, HA, HJ21, HO_505000, HO_505001, HO_505002, HO_505003, BK489, BK504, BK506, HB⟩ := hcut
          cases kq with
          | zero => exact absurd HA.out (by simp [tests_Left.j2])
          | succ kj21 =>
           have H := HA.out
           clear HA
           simp only [tests_Left.j2] at H
           by_cases c40 : x46_21 = true
           ·subst c40
            have H1 : (some (([] : List Int), 2)) = some (r1, r2) := by rw [if_pos rfl] at H; exact H
            clear H
            have H := H1
            clear H1
            simp only [Option.some.injEq, Prod.mk.injEq] at H
            obtain ⟨rfl, rfl⟩ := H
            go_wp2
            go_ret2
            exact ⟨_, by first | rfl | (simp [errW_none, errW_some] <;> rfl) | (simp [*, errW_none, errW_some] <;> rfl), by first | exact Kd.R_nil _ _ _ _ _ | exact Kd.N_nil _ _ _ _ _ | exact Kd.V_nil _ _ _ _ _ | exact Kd.Q_nil _ _ _ _ _ | exact Kd.S_nil _ _ _ _ _, by repeat (first | (with_reducible first | exact HB.out | apply below_alloc | apply pw_below_drewN | apply below_drew1 | refine below_set ?_ GE489.out | refine below_set ?_ GE504.out | refine below_set ?_ GE506.out) | exact HB.out)⟩
           ·replace c40 := Bool.eq_false_iff.mpr c40
            subst c40
            have H1 : (if ((rd_T53 l1 x29_2).f1) = 1 then (if 0 ≤ ((rd_T53 l1 x29_2).f0) then (if ((rd_T53 l1 x29_2).f0) < (t499.length : Int) then (tests_Left.l0 kj21 (Go.bits .and .u64 x8_2 (rd t499 ((rd_T53 l1 x29_2).f0))) l1 (l1.length : Int) (wrap64 (x29_2 + 1)) t490 t493 t496 t499 t502) else (none)) else (none)) else (if 0 ≤ ((rd_T53 l1 x29_2).f0) then (if ((rd_T53 l1 x29_2).f0) < (t499.length : Int) then (tests_Left.l0 kj21 (Go.bits .andNot .u64 x8_2 (rd t499 ((rd_T53 l1 x29_2).f0))) l1 (l1.length : Int) (wrap64 (x29_2 + 1)) t490 t493 t496 t499 t502) else (none)) else (none))) = some (r1, r2) := by rw [if_neg (show ¬ (false = true) by decide)] at H; exact H
            clear H
            have H := H1
            clear H1
            by_cases c41 : ((rd_T53 l1 x29_2).f1) = 1
            ·rw [if_pos c41] at H
             have c41b0 : (((rd_T53 l1 x29_2).f1) == 1) = true := beq_iff_eq.mpr c41
             have c41b1 : (((rd_T53 l1 x29_2).f1) != 1) = false := bne_eq_false_iff_eq.mpr c41
             clear c41
             by_cases c42 : 0 ≤ ((rd_T53 l1 x29_2).f0)
             ·rw [if_pos c42] at H
              have c42b0 : decide (0 ≤ ((rd_T53 l1 x29_2).f0)) = true := decide_eq_true c42
              clear c42
              by_cases c43 : ((rd_T53 l1 x29_2).f0) < (t499.length : Int)
              ·rw [if_pos c43] at H
               have c43b0 : decide (((rd_T53 l1 x29_2).f0) < (t499.length : Int)) = true := decide_eq_true c43
               clear c43
               have H' := Aside0.mk H
               clear H
               have hnb44 := NB506_489.out
               have hnc44 := NB489_506.out
               have hnb45 := NB506_504.out
               have hnc45 := NB504_506.out
               have hcz46_0 : wc.cell? ⟨gb506, 0, none⟩ = some (.int .i64 ((rd_T53 l1 x29_2).f0)) := (blk_cell BK506.out 0).trans rfl
               have hcz46_1 : wc.cell? ⟨gb506, 1, none⟩ = some (.int .i64 ((rd_T53 l1 x29_2).f1)) := (blk_cell BK506.out 1).trans rfl
               have hfz46_0 := blk_frozen BK506.out 0
               have hfz46_1 := blk_frozen BK506.out 1
               have hnb47 := NB504_489.out
               have hnc47 := NB489_504.out
               have hcz48_0 : wc.cell? ⟨gb504, 0, none⟩ = some (.slice Ao9 t490.length co9) := (blk_cell BK504.out 0).trans rfl
               have hcz48_1 : wc.cell? ⟨gb504, 1, none⟩ = some (.slice Ao12 t493.length co12) := (blk_cell BK504.out 1).trans rfl
               have hcz48_2 : wc.cell? ⟨gb504, 2, none⟩ = some (.slice Ao13 t496.length co13) := (blk_cell BK504.out 2).trans rfl
               have hcz48_3 : wc.cell? ⟨gb504, 3, none⟩ = some (.slice Ao14 t499.length co14) := (blk_cell BK504.out 3).trans rfl
               have hcz48_4 : wc.cell? ⟨gb504, 4, none⟩ = some (.int .u64 t502) := (blk_cell BK504.out 4).trans rfl
               have hfz48_0 := blk_frozen BK504.out 0
               have hfz48_1 := blk_frozen BK504.out 1
               have hfz48_2 := blk_frozen BK504.out 2
               have hfz48_3 := blk_frozen BK504.out 3
               have hfz48_4 := blk_frozen BK504.out 4
               have p509 : 0 ≤ (((rd_T53 l1 x29_2).f0) : Int) := of_decide_eq_true az
               have q509 : ((rd_T53 l1 x29_2).f0) < (t499.length : Int) := of_decide_eq_true az
               obtain ⟨ad509, e509, hx509_0⟩ := Kd.at_int (Kd.R_reads' HO_505003.out).2.2 ((rd_T53 l1 x29_2).f0) p509 q509
               cases e509
               replace p509 := eq_true p509
               replace q509 := eq_true q509
               go_wp2
               go_roundg kj21
               case measure => have := HJ3.out; have := HK2.out; have := HJ21.out; omega
               case rel => exact ⟨(Go.bits .and .u64 x8_2 (rd t499 ((rd_T53 l1 x29_2).f0))), (wrap64 (x29_2 + 1)), (by first | rfl | (simp; done) | (simp [*]; done)), (by first | rfl | (simp; done) | (simp [*]; done)), H', ⟨by have := HJ3.out; have := HK2.out; have := HJ21.out; omega⟩, ⟨by (with_reducible repeat (first | apply Kd.V_alloc | apply Kd.V_drewN | apply Kd.V_drew)); exact Kd.V_mono HO_505000.out (fun _ hk => ⟨hk.1, ⟨hk.2.1, hk.2.2.1⟩⟩)⟩, ⟨by (with_reducible repeat (first | apply Kd.V_alloc | apply Kd.V_drewN | apply Kd.V_drew)); exact Kd.V_mono HO_505001.out (fun _ hk => ⟨hk.1, ⟨hk.2.1, hk.2.2.1⟩⟩)⟩, ⟨by (with_reducible repeat (first | apply Kd.V_alloc | apply Kd.V_drewN | apply Kd.V_drew)); exact Kd.V_mono HO_505002.out (fun _ hk => ⟨hk.1, ⟨hk.2.1, hk.2.2.1⟩⟩)⟩, ⟨by (with_reducible repeat (first | apply Kd.R_alloc | apply Kd.R_drewN | apply Kd.R_drew)); exact HO_505003.out⟩, ⟨by (with_reducible repeat (first | refine blk_drewN ?_ _ | refine blk_drew ?_ | refine blk_alloc ?_ _)); exact BK489.out⟩, ⟨by (with_reducible repeat (first | refine blk_drewN ?_ _ | refine blk_drew ?_ | refine blk_alloc ?_ _)); exact BK504.out⟩, ⟨by repeat (first | (with_reducible first | exact HB.out | apply below_alloc | apply pw_below_drewN | apply below_drew1 | refine below_set ?_ GE489.out | refine below_set ?_ GE504.out | refine below_set ?_ GE506.out) | exact HB.out)⟩⟩
              ·rw [if_neg c43] at H
               exact absurd H (by simp)
             ·rw [if_neg c42] at H
              exact absurd H (by simp)
            ·rw [if_neg c41] at H
             have c41b0 : (((rd_T53 l1 x29_2).f1) == 1) = false := beq_eq_false_iff_ne.mpr c41
             have c41b1 : (((rd_T53 l1 x29_2).f1) != 1) = true := bne_iff_ne.mpr c41
             by_cases c49 : 0 ≤ ((rd_T53 l1 x29_2).f0)
             ·rw [if_pos c49] at H
              have c49b0 : decide (0 ≤ ((rd_T53 l1 x29_2).f0)) = true := decide_eq_true c49
              clear c49
              by_cases c50 : ((rd_T53 l1 x29_2).f0) < (t499.length : Int)
              ·rw [if_pos c50] at H
               have c50b0 : decide (((rd_T53 l1 x29_2).f0) < (t499.length : Int)) = true := decide_eq_true c50
               clear c50
               have H' := Aside0.mk H
               clear H
               have hnb51 := NB506_489.out
               have hnc51 := NB489_506.out
               have hnb52 := NB506_504.out
               have hnc52 := NB504_506.out
               have hcz53_0 : wc.cell? ⟨gb506, 0, none⟩ = some (.int .i64 ((rd_T53 l1 x29_2).f0)) := (blk_cell BK506.out 0).trans rfl
               have hcz53_1 : wc.cell? ⟨gb506, 1, none⟩ = some (.int .i64 ((rd_T53 l1 x29_2).f1)) := (blk_cell BK506.out 1).trans rfl
               have hfz53_0 := blk_frozen BK506.out 0
               have hfz53_1 := blk_frozen BK506.out 1
               have hnb54 := NB504_489.out
               have hnc54 := NB489_504.out
               have hcz55_0 : wc.cell? ⟨gb504, 0, none⟩ = some (.slice Ao9 t490.length co9) := (blk_cell BK504.out 0).trans rfl
               have hcz55_1 : wc.cell? ⟨gb504, 1, none⟩ = some (.slice Ao12 t493.length co12) := (blk_cell BK504.out 1).trans rfl
               have hcz55_2 : wc.cell? ⟨gb504, 2, none⟩ = some (.slice Ao13 t496.length co13) := (blk_cell BK504.out 2).trans rfl
               have hcz55_3 : wc.cell? ⟨gb504, 3, none⟩ = some (.slice Ao14 t499.length co14) := (blk_cell BK504.out 3).trans rfl
               have hcz55_4 : wc.cell? ⟨gb504, 4, none⟩ = some (.int .u64 t502) := (blk_cell BK504.out 4).trans rfl
               have hfz55_0 := blk_frozen BK504.out 0
               have hfz55_1 := blk_frozen BK504.out 1
               have hfz55_2 := blk_frozen BK504.out 2
               have hfz55_3 := blk_frozen BK504.out 3
               have hfz55_4 := blk_frozen BK504.out 4
               have p510 : 0 ≤ (((rd_T53 l1 x29_2).f0) : Int) := of_decide_eq_true az
               have q510 : ((rd_T53 l1 x29_2).f0) < (t499.length : Int) := of_decide_eq_true az
               obtain ⟨ad510, e510, hx510_0⟩ := Kd.at_int (Kd.R_reads' HO_505003.out).2.2 ((rd_T53 l1 x29_2).f0) p510 q510
               cases e510
               replace p510 := eq_true p510
               replace q510 := eq_true q510
               go_wp2
               go_roundg kj21
               case measure => have := HJ3.out; have := HK2.out; have := HJ21.out; omega
               case rel => exact ⟨(Go.bits .andNot .u64 x8_2 (rd t499 ((rd_T53 l1 x29_2).f0))), (wrap64 (x29_2 + 1)), (by first | rfl | (simp; done) | (simp [*]; done)), (by first | rfl | (simp; done) | (simp [*]; done)), H', ⟨by have := HJ3.out; have := HK2.out; have := HJ21.out; omega⟩, ⟨by (with_reducible repeat (first | apply Kd.V_alloc | apply Kd.V_drewN | apply Kd.V_drew)); exact Kd.V_mono HO_505000.out (fun _ hk => ⟨hk.1, ⟨hk.2.1, hk.2.2.1⟩⟩)⟩, ⟨by (with_reducible repeat (first | apply Kd.V_alloc | apply Kd.V_drewN | apply Kd.V_drew)); exact Kd.V_mono HO_505001.out (fun _ hk => ⟨hk.1, ⟨hk.2.1, hk.2.2.1⟩⟩)⟩, ⟨by (with_reducible repeat (first | apply Kd.V_alloc | apply Kd.V_drewN | apply Kd.V_drew)); exact Kd.V_mono HO_505002.out (fun _ hk => ⟨hk.1, ⟨hk.2.1, hk.2.2.1⟩⟩)⟩, ⟨by (with_reducible repeat (first | apply Kd.R_alloc | apply Kd.R_drewN | apply Kd.R_drew)); exact HO_505003.out⟩, ⟨by (with_reducible repeat (first | refine blk_drewN ?_ _ | refine blk_drew ?_ | refine blk_alloc ?_ _)); exact BK489.out⟩, ⟨by (with_reducible repeat (first | refine blk_drewN ?_ _ | refine blk_drew ?_ | refine blk_alloc ?_ _)); exact BK504.out⟩, ⟨by repeat (first | (with_reducible first | exact HB.out | apply below_alloc | apply pw_below_drewN | apply below_drew1 | refine below_set ?_ GE489.out | refine below_set ?_ GE504.out | refine below_set ?_ GE506.out) | exact HB.out)⟩⟩
              ·rw [if_neg c50] at H
               exact absurd H (by simp)
             ·rw [if_neg c49] at H
              exact absurd H (by simp)
        ·rw [if_neg c21] at H
         exact absurd H (by simp)
       ·rw [if_neg c20] at H
        exact absurd H (by simp)
      ·rw [if_neg c19] at H
       have c19b0 : decide (x29_2 < (l1.length : Int)) = false := decide_eq_false c19
       clear c19
       have H' := Aside0.mk H
       clear H
       have hnb56 := NB504_489.out
       have hnc56 := NB489_504.out
       have hcz57_0 : wr.cell? ⟨gb504, 0, none⟩ = some (.slice Ao9 t490.length co9) := (blk_cell BK504.out 0).trans rfl
       have hcz57_1 : wr.cell? ⟨gb504, 1, none⟩ = some (.slice Ao12 t493.length co12) := (blk_cell BK504.out 1).trans rfl
       have hcz57_2 : wr.cell? ⟨gb504, 2, none⟩ = some (.slice Ao13 t496.length co13) := (blk_cell BK504.out 2).trans rfl
       have hcz57_3 : wr.cell? ⟨gb504, 3, none⟩ = some (.slice Ao14 t499.length co14) := (blk_cell BK504.out 3).trans rfl
       have hcz57_4 : wr.cell? ⟨gb504, 4, none⟩ = some (.int .u64 t502) := (blk_cell BK504.out 4).trans rfl
       have hfz57_0 := blk_frozen BK504.out 0
       have hfz57_1 := blk_frozen BK504.out 1
       have hfz57_2 := blk_frozen BK504.out 2
       have hfz57_3 := blk_frozen BK504.out 3
       have hfz57_4 := blk_frozen BK504.out 4
       go_wp2
       go_loopg [11, 71] k2 (fun kq v11 v71 w' => ∃ (x11_3 : List Int) (x71_3 : Int), v71 = .int .i64 x71_3 ∧ Aside0 (tests_Left.l1 kq x8_2 x11_3 (t490.length : Int) x71_3 = some (r1, r2)) ∧ Aside0 (kq ≤ k2) ∧ Aside0 (Kd.R (Kd.int .i64) 3 w' w.heap.size (fun _ => True) v11 x11_3) ∧ Aside0 (Kd.V (Kd.int .i64) 3 w' w.heap.size (fun k_ => some k_ ≠ (v11 : Value).ownBlock ∧ some k_ ≠ ((.slice Ao14 t499.length co14) : Value).ownBlock ∧ k_ ≠ gb489 ∧ k_ ≠ gb504) (.slice Ao9 t490.length co9) t490) ∧ Aside0 (Kd.V (Kd.slice 3 (Kd.int .i64)) 22 w' w.heap.size (fun k_ => some k_ ≠ (v11 : Value).ownBlock ∧ some k_ ≠ ((.slice Ao14 t499.length co14) : Value).ownBlock ∧ k_ ≠ gb489 ∧ k_ ≠ gb504) (.slice Ao12 t493.length co12) t493) ∧ Aside0 (Kd.V (Kd.int .i64) 3 w' w.heap.size (fun k_ => some k_ ≠ (v11 : Value).ownBlock ∧ some k_ ≠ ((.slice Ao14 t499.length co14) : Value).ownBlock ∧ k_ ≠ gb489 ∧ k_ ≠ gb504) (.slice Ao13 t496.length co13) t496) ∧ Aside0 (Kd.R (Kd.int .u64) 75 w' w.heap.size (fun _ => True) (.slice Ao14 t499.length co14) t499) ∧ Aside0 (w'.heap[gb489]? = some (.cells #[(.slice A0_0 l0_0.length c0_0), (.slice A0_1 l0_1.length c0_1), (.slice A0_2 l0_2.length c0_2)] 25 (0, 0))) ∧ Aside0 (w'.heap[gb504]? = some (.cells #[(.slice Ao9 t490.length co9), (.slice Ao12 t493.length co12), (.slice Ao13 t496.length co13), (.slice Ao14 t499.length co14), .int .u64 t502] 77 (0, 0))) ∧ Aside0 (Below w.heap.size w w'))
       case atStart => exact ⟨(([] : List Int)), (0), (by first | rfl | (simp; done) | (simp [*]; done)), H', ⟨Nat.le_refl _⟩, ⟨by first | exact Kd.R_nil _ _ _ _ _ | exact Kd.N_nil _ _ _ _ _ | exact Kd.V_nil _ _ _ _ _ | exact Kd.Q_nil _ _ _ _ _ | exact Kd.S_nil _ _ _ _ _⟩, ⟨by (with_reducible repeat (first | apply Kd.V_alloc | apply Kd.V_drewN | apply Kd.V_drew)); exact Kd.V_mono HO_505000.out (fun _ hk => ⟨(by simp [Value.ownBlock]), ⟨hk.1, ⟨hk.2.1, hk.2.2⟩⟩⟩)⟩, ⟨by (with_reducible repeat (first | apply Kd.V_alloc | apply Kd.V_drewN | apply Kd.V_drew)); exact Kd.V_mono HO_505001.out (fun _ hk => ⟨(by simp [Value.ownBlock]), ⟨hk.1, ⟨hk.2.1, hk.2.2⟩⟩⟩)⟩, ⟨by (with_reducible repeat (first | apply Kd.V_alloc | apply Kd.V_drewN | apply Kd.V_drew)); exact Kd.V_mono HO_505002.out (fun _ hk => ⟨(by simp [Value.ownBlock]), ⟨hk.1, ⟨hk.2.1, hk.2.2⟩⟩⟩)⟩, ⟨by (with_reducible repeat (first | apply Kd.R_alloc | apply Kd.R_drewN | apply Kd.R_drew)); exact HO_505003.out⟩, ⟨by (with_reducible repeat (first | refine blk_drewN ?_ _ | refine blk_drew ?_ | refine blk_alloc ?_ _)); exact BK489.out⟩, ⟨by (with_reducible repeat (first | refine blk_drewN ?_ _ | refine blk_drew ?_ | refine blk_alloc ?_ _)); exact BK504.out⟩, ⟨by repeat (first | (with_reducible first | exact HB.out | apply below_alloc | apply pw_below_drewN | apply below_drew1 | refine below_set ?_ GE489.out | refine below_set ?_ GE504.out) | exact HB.out)⟩⟩
       case round =>
        clear H'
        try clear c1
        try clear c2
        try clear p2
        try clear c3
        try clear c4
        try clear c5
        try clear p5
        try clear q5
        try clear hx5
        try clear p6
        try clear c10
        try clear c15
        try clear c15b0
        try clear c15b1
        try clear c16
        try clear c17
        try clear c19
        try clear c19b0
        try clear c20
        try clear c20b0
        try clear c21
        try clear c21b0
        try clear c24
        try clear c25
        try clear c28
        try clear c30
        try clear c31
        try clear c33
        try clear c35
        try clear c36
        try clear c38
        try clear c40
        try clear c41
        try clear c41b0
        try clear c41b1
        try clear c42
        try clear c42b0
        try clear c43
        try clear c43b0
        try clear c44
        try clear c45
        try clear c47
        try clear c49
        try clear c49b0
        try clear c50
        try clear c50b0
        try clear p50
        try clear q50
        try clear hx50
        try clear c51
        try clear p51
        try clear q51
        try clear hx51
        try clear c52
        try clear c54
        try clear c56
        try clear hcz11_0
        try clear hcz11_1
        try clear hcz11_2
        try clear hcz11_3
        try clear hcz11_4
        try clear hcz18_0
        try clear hcz18_1
        try clear hcz18_2
        try clear hcz18_3
        try clear hcz18_4
        try clear hcz26_0
        try clear hcz26_1
        try clear hcz32_0
        try clear hcz32_1
        try clear hcz34_0
        try clear hcz34_1
        try clear hcz34_2
        try clear hcz34_3
        try clear hcz34_4
        try clear hcz37_0
        try clear hcz37_1
        try clear hcz39_0
        try clear hcz39_1
        try clear hcz39_2
        try clear hcz39_3
        try clear hcz39_4
        try clear hcz46_0
        try clear hcz46_1
        try clear hcz48_0
        try clear hcz48_1
        try clear hcz48_2
        try clear hcz48_3
        try clear hcz48_4
        try clear hcz53_0
        try clear hcz53_1
        try clear hcz55_0
        try clear hcz55_1
        try clear hcz55_2
        try clear hcz55_3
        try clear hcz55_4
        try clear hcz57_0
        try clear hcz57_1
        try clear hcz57_2
        try clear hcz57_3
        try clear hcz57_4
        try clear hcz6_0
        try clear hcz6_1
        try clear hcz6_2
        try clear hfz11_0
        try clear hfz11_1
        try clear hfz11_2
        try clear hfz11_3
        try clear hfz11_4
        try clear hfz18_0
        try clear hfz18_1
        try clear hfz18_2
        try clear hfz18_3
        try clear hfz18_4
        try clear hfz26_0
        try clear hfz26_1
        try clear hfz32_0
        try clear hfz32_1
        try clear hfz34_0
        try clear hfz34_1
        try clear hfz34_2
        try clear hfz34_3
        try clear hfz34_4
        try clear hfz37_0
        try clear hfz37_1
        try clear hfz39_0
        try clear hfz39_1
        try clear hfz39_2
        try clear hfz39_3
        try clear hfz39_4
        try clear hfz46_0
        try clear hfz46_1
        try clear hfz48_0
        try clear hfz48_1
        try clear hfz48_2
        try clear hfz48_3
        try clear hfz48_4
        try clear hfz53_0
        try clear hfz53_1
        try clear hfz55_0
        try clear hfz55_1
        try clear hfz55_2
        try clear hfz55_3
        try clear hfz55_4
        try clear hfz57_0
        try clear hfz57_1
        try clear hfz57_2
        try clear hfz57_3
        try clear hfz57_4
        try clear hfz6_0
        try clear hfz6_1
        try clear hfz6_2
        try clear hx505_0
        try clear hx505_1
        try clear hx509_0
        try clear hx510_0
        try clear p2
        try clear p5
        try clear p505
        try clear p509
        try clear p510
        try clear p6
        try clear q5
        try clear q505
        try clear q509
        try clear q510
        obtain ⟨x11_3, x71_3, rfl, HA, HK3, HO_11, HO_505000, HO_505001, HO_505002, HO_505003, BK489, BK504, HB⟩ := hrel
        cases gk with
        | zero => exact absurd HA.out (by simp [tests_Left.l1])
        | succ k3 =>
         have H := HA.out
         clear HA
         simp only [tests_Left.l1] at H
         by_cases c58 : x71_3 < (t490.length : Int)
         ·rw [if_pos c58] at H
          have c58b0 : decide (x71_3 < (t490.length : Int)) = true := decide_eq_true c58
          clear c58
          replace H := Option.bind_eq_some_iff.mp H
          obtain ⟨t511, A590, H⟩ := H
          replace H : (if t511 = true then (if x11_3.length < 17592186044416 then (tests_Left.l1 k3 x8_2 (x11_3 ++ [x71_3]) (t490.length : Int) (wrap64 (x71_3 + 1))) else (none)) else (tests_Left.l1 k3 x8_2 x11_3 (t490.length : Int) (wrap64 (x71_3 + 1)))) = some (r1, r2) := H
          have A59 := Aside0.mk A590
          clear A590
          by_cases c60 : t511 = true
          ·subst c60
           have H1 : (if x11_3.length < 17592186044416 then (tests_Left.l1 k3 x8_2 (x11_3 ++ [x71_3]) (t490.length : Int) (wrap64 (x71_3 + 1))) else (none)) = some (r1, r2) := by rw [if_pos rfl] at H; exact H
           clear H
           have H := H1
           clear H1
           by_cases c61 : x11_3.length < 17592186044416
           ·rw [if_pos c61] at H
            have LMc61 := Aside0.mk c61
            clear c61
            obtain ⟨y512, hy512⟩ : ∃ y_ : List Int, y_ = (x11_3 ++ [x71_3]) := ⟨_, rfl⟩
            replace H : (tests_Left.l1 k3 x8_2 y512 (t490.length : Int) (wrap64 (x71_3 + 1))) = some (r1, r2) := by first | (rw [hy512]; with_reducible exact H) | (have H2_ := (Option.bind_some _ _).symm.trans H; rw [hy512]; with_reducible exact H2_) | (have H2_ := (Option.bind_some _ _).symm.trans H; with_reducible exact H2_) | with_reducible exact H | (rw [hy512]; exact H) | exact H
            have Ny512 := Aside0.mk hy512
            clear hy512
            have H' := Aside0.mk H
            clear H
            go_wp2_with (first | ((with_reducible refine gate_callee (f := 58) rfl ?_); refine goesL_ (some 76) rfl rfl Tryd.func58 (by kernel_rfl) rfl #[.int .u64 x8_2, .int .i64 x71_3] rfl dz ?_; (with_reducible refine (tests_faults_has.calls x8_2 x71_3 true _ A59.out).mono ?_); rintro e w' ⟨rfl, ⟨nd, rfl⟩⟩; refine ⟨_, rfl, ?_⟩) | ((with_reducible refine gate_builtin (b := .append) (xs := #[.tmp 77, .tmp 79]) rfl ?_); (try (refine gate_guard (by rfl) ?_; dsimp only)); at_builtin; refine Kd.R_append (Kd.int .i64) (w0 := w) w.heap.size rfl (.tmp 77) (.tmp 79) 22 3 (.int .i64 0) 8 rfl Tryd.underlying22 info3 rfl (by decide) (by omega) u11 x11_3 x71_3 [.int .i64 x71_3] (fun _ => True) (fun _ => False) rfl rfl ?aP (fun _ hk => hk.elim) ?aF ?aO ?aB ?aS ?aL ?_; (case aP => exact rfl); (case aB => exact bz); (case aF => exact (fun _ _ => trivial)); (case aO => exact (rz HO_11.out)); (case aS => exact (below_size bz)); (case aL => have := LMc61.out; omega); intro v513 w62 ho hb hg hat; rw [← Ny512.out] at ho; have n0_ := Aside0.mk (Kd.V_afterv (ok := (fun k_ => some k_ ≠ (.slice Ao14 t499.length co14 : Value).ownBlock ∧ k_ ≠ gb489 ∧ k_ ≠ gb504)) (by (with_reducible repeat (first | apply Kd.V_alloc | apply Kd.V_drewN | apply Kd.V_drew)); exact Kd.V_mono HO_505000.out (fun _ hk => ⟨⟨hk.2.1, ⟨hk.2.2.1, hk.2.2.2⟩⟩, hk.1⟩)) hg hat); have n1_ := Aside0.mk (Kd.V_afterv (ok := (fun k_ => some k_ ≠ (.slice Ao14 t499.length co14 : Value).ownBlock ∧ k_ ≠ gb489 ∧ k_ ≠ gb504)) (by (with_reducible repeat (first | apply Kd.V_alloc | apply Kd.V_drewN | apply Kd.V_drew)); exact Kd.V_mono HO_505001.out (fun _ hk => ⟨⟨hk.2.1, ⟨hk.2.2.1, hk.2.2.2⟩⟩, hk.1⟩)) hg hat); have n2_ := Aside0.mk (Kd.V_afterv (ok := (fun k_ => some k_ ≠ (.slice Ao14 t499.length co14 : Value).ownBlock ∧ k_ ≠ gb489 ∧ k_ ≠ gb504)) (by (with_reducible repeat (first | apply Kd.V_alloc | apply Kd.V_drewN | apply Kd.V_drew)); exact Kd.V_mono HO_505002.out (fun _ hk => ⟨⟨hk.2.1, ⟨hk.2.2.1, hk.2.2.2⟩⟩, hk.1⟩)) hg hat); have n3_ := Aside0.mk (Kd.R_over' (rz HO_505003.out) (Kd.R_typed (rz HO_11.out)) (by decide) hg); have n4_ := Aside0.mk (blk_grown (g := gb489) (o := .cells #[.slice A0_0 l0_0.length c0_0, .slice A0_1 l0_1.length c0_1, .slice A0_2 l0_2.length c0_2] 25 (0, 0)) (kz BK489.out) hg (Kd.R_ne HO_11.out BK489.out (by decide))); have n5_ := Aside0.mk (blk_grown (g := gb504) (o := .cells #[.slice Ao9 t490.length co9, .slice Ao12 t493.length co12, .slice Ao13 t496.length co13, .slice Ao14 t499.length co14, .int .u64 t502] 77 (0, 0)) (kz BK504.out) hg (Kd.R_ne HO_11.out BK504.out (by decide))); have n6_ := Aside0.mk (hb); have n7_ := Aside0.mk (ho); clear HO_505000; clear HO_505001; clear HO_505002; clear HO_505003; clear BK489; clear BK504; clear HB; clear HO_11; have HO_505000 := n0_; have HO_505001 := n1_; have HO_505002 := n2_; have HO_505003 := n3_; have BK489 := n4_; have BK504 := n5_; have HB := n6_; have HO514 := n7_; clear n0_ n1_ n2_ n3_ n4_ n5_ n6_ n7_; clear ho hb hg hat))
            go_roundg k3
            case measure => have := HJ3.out; have := HK2.out; have := HK3.out; omega
            case rel => exact ⟨(y512), (wrap64 (x71_3 + 1)), (by first | rfl | (simp; done) | (simp [*]; done)), H', ⟨by have := HJ3.out; have := HK2.out; have := HK3.out; omega⟩, ⟨by (with_reducible repeat (first | apply Kd.R_alloc | apply Kd.R_drewN | apply Kd.R_drew)); exact HO514.out⟩, ⟨by (with_reducible repeat (first | apply Kd.V_alloc | apply Kd.V_drewN | apply Kd.V_drew)); exact Kd.V_mono HO_505000.out (fun _ hk => ⟨hk.2, ⟨hk.1.1, ⟨hk.1.2.1, hk.1.2.2⟩⟩⟩)⟩, ⟨by (with_reducible repeat (first | apply Kd.V_alloc | apply Kd.V_drewN | apply Kd.V_drew)); exact Kd.V_mono HO_505001.out (fun _ hk => ⟨hk.2, ⟨hk.1.1, ⟨hk.1.2.1, hk.1.2.2⟩⟩⟩)⟩, ⟨by (with_reducible repeat (first | apply Kd.V_alloc | apply Kd.V_drewN | apply Kd.V_drew)); exact Kd.V_mono HO_505002.out (fun _ hk => ⟨hk.2, ⟨hk.1.1, ⟨hk.1.2.1, hk.1.2.2⟩⟩⟩)⟩, ⟨by (with_reducible repeat (first | apply Kd.R_alloc | apply Kd.R_drewN | apply Kd.R_drew)); exact HO_505003.out⟩, ⟨by (with_reducible repeat (first | refine blk_drewN ?_ _ | refine blk_drew ?_ | refine blk_alloc ?_ _)); exact BK489.out⟩, ⟨by (with_reducible repeat (first | refine blk_drewN ?_ _ | refine blk_drew ?_ | refine blk_alloc ?_ _)); exact BK504.out⟩, ⟨by repeat (first | (with_reducible first | exact HB.out | apply below_alloc | apply pw_below_drewN | apply below_drew1 | refine below_set ?_ GE489.out | refine below_set ?_ GE504.out) | exact HB.out)⟩⟩
           ·rw [if_neg c61] at H
            exact absurd H (by simp)
          ·replace c60 := Bool.eq_false_iff.mpr c60
           subst c60
           have H1 : (tests_Left.l1 k3 x8_2 x11_3 (t490.length : Int) (wrap64 (x71_3 + 1))) = some (r1, r2) := by rw [if_neg (show ¬ (false = true) by decide)] at H; exact H
           clear H
           have H := H1
           clear H1
           have H' := Aside0.mk H
           clear H
           go_wp2_with (first | ((with_reducible refine gate_callee (f := 58) rfl ?_); refine goesL_ (some 76) rfl rfl Tryd.func58 (by kernel_rfl) rfl #[.int .u64 x8_2, .int .i64 x71_3] rfl dz ?_; (with_reducible refine (tests_faults_has.calls x8_2 x71_3 false _ A59.out).mono ?_); rintro e w' ⟨rfl, ⟨nd, rfl⟩⟩; refine ⟨_, rfl, ?_⟩))
           go_roundg k3
           case measure => have := HJ3.out; have := HK2.out; have := HK3.out; omega
           case rel => exact ⟨(x11_3), (wrap64 (x71_3 + 1)), (by first | rfl | (simp; done) | (simp [*]; done)), H', ⟨by have := HJ3.out; have := HK2.out; have := HK3.out; omega⟩, ⟨by (with_reducible repeat (first | apply Kd.R_alloc | apply Kd.R_drewN | apply Kd.R_drew)); exact HO_11.out⟩, ⟨by (with_reducible repeat (first | apply Kd.V_alloc | apply Kd.V_drewN | apply Kd.V_drew)); exact HO_505000.out⟩, ⟨by (with_reducible repeat (first | apply Kd.V_alloc | apply Kd.V_drewN | apply Kd.V_drew)); exact HO_505001.out⟩, ⟨by (with_reducible repeat (first | apply Kd.V_alloc | apply Kd.V_drewN | apply Kd.V_drew)); exact HO_505002.out⟩, ⟨by (with_reducible repeat (first | apply Kd.R_alloc | apply Kd.R_drewN | apply Kd.R_drew)); exact HO_505003.out⟩, ⟨by (with_reducible repeat (first | refine blk_drewN ?_ _ | refine blk_drew ?_ | refine blk_alloc ?_ _)); exact BK489.out⟩, ⟨by (with_reducible repeat (first | refine blk_drewN ?_ _ | refine blk_drew ?_ | refine blk_alloc ?_ _)); exact BK504.out⟩, ⟨by repeat (first | (with_reducible first | exact HB.out | apply below_alloc | apply pw_below_drewN | apply below_drew1 | refine below_set ?_ GE489.out | refine below_set ?_ GE504.out) | exact HB.out)⟩⟩
         ·rw [if_neg c58] at H
          have c58b0 : decide (x71_3 < (t490.length : Int)) = false := decide_eq_false c58
          clear c58
          simp only [Option.some.injEq, Prod.mk.injEq] at H
          obtain ⟨rfl, rfl⟩ := H
          go_wp2
          go_ret2
          exact ⟨_, by first | rfl | (simp [errW_none, errW_some] <;> rfl) | (simp [*, errW_none, errW_some] <;> rfl), by (with_reducible repeat (first | apply Kd.R_alloc | apply Kd.R_drewN | apply Kd.R_drew)); exact HO_11.out, by repeat (first | (with_reducible first | exact HB.out | apply below_alloc | apply pw_below_drewN | apply below_drew1 | refine below_set ?_ GE489.out | refine below_set ?_ GE504.out) | exact HB.out)⟩

end Go.Proofs.YtekmiepdodaidaaDoor.X
end
