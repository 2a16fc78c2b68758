/- Texts behind TestsMore, part 28: contracts of the program's functions and the plain words for them. -/
import Derived.Test.YtekmiepdodaidaaDoorTpas
import Derived.Test.YtekmiepdodaidaaDoorTpat
import Derived.Test.YtekmiepdodaidaaDoorTpau
import Derived.Test.YtekmiepdodaidaaDoorTpav
import Derived.Test.YtekmiepdodaidaaDoorTpaw
import Derived.Test.YtekmiepdodaidaaDoorTpax
import Derived.Test.YtekmiepdodaidaaDoorTpaz
import Derived.Test.YtekmiepdodaidaaDoorTpba
section
/- tickinglaw07.tame, by hand. -/
set_option linter.unusedVariables false
set_option linter.unusedSimpArgs false
namespace Go.Proofs.YtekmiepdodaidaaDoor.X
open Go.RowKit Go.Proofs.YtekmiepdodaidaaDoorW.PrintWords Go.Proofs.YtekmiepdodaidaaDoorW.PrintLast Go.Proofs.YtekmiepdodaidaaDoorW.PrintMore

theorem mod_n (x n : Int) (h : 1 ≤ n) (h2 : n ≤ 1000000) (w : World) : Calls Tryd.prog 34 #[.int .i64 x, .int .i64 n] w fun e w' => e = .returned (.int .i64 (modN x n)) ∧ Drawn0 w w' := tickinglaw07_mod.calls x n _ w (mod_eq x n h h2)
theorem at_n (A : Option Addr) (c : Nat) (l : List Int) (i : Nat) (w : World) (h : Kd.C (Kd.int .i64) w A l.length l) (hc : l.length ≤ c) : Calls Tryd.prog 35 #[.slice A l.length c, .int .i64 i] w fun e w' => e = .returned (.int .i64 (atN l i)) ∧ Drawn0 w w' := tickinglaw07_at.calls A c l i _ w h hc (at_eq l i)
def TamePost (a : List Int) (b : List (List Int)) (c : List Int) (w : World) (e : Ending) (w' : World) : Prop :=
 ∃ v0 v1 v2, e = .returned (.agg #[v0, v1, v2]) ∧ Kd.R (Kd.int .i64) 3 w' w.heap.size (fun k => some k ≠ v2.ownBlock) v0 (tameW a) ∧ Kd.R (Kd.slice 3 (Kd.int .i64)) 22 w' w.heap.size (fun k => some k ≠ v2.ownBlock) v1 (tameB a b) ∧ Kd.R (Kd.int .i64) 3 w' w.heap.size (fun k => some k ≠ v0.ownBlock) v2 (tameC b c) ∧ Below w.heap.size w w'
theorem tameN_eq (a : List Int) : wrap64 (1 + modN ((a.length : Int) - 1) 10) = (tameN a : Int) := by
 have := modN_in ((a.length : Int) - 1) 10 (by omega)
 unfold tameN wrap64
 omega
theorem range_take {α : Type} (f : Nat → α) (n k : Nat) (h : k < n) : ((List.range n).map f).take (k + 1) = ((List.range n).map f).take k ++ [f k] := by
 rw [List.take_succ_eq_append_getElem (by simpa using h)]; simp
theorem range_snoc {α : Type} (f : Nat → α) (k : Nat) : (List.range (k + 1)).map f = (List.range k).map f ++ [f k] := by rw [List.range_succ, List.map_append]; rfl
/-- A row that is being filled. -/
def rowFill (f : Nat → Int) (n i : Nat) : List Int := (List.range i).map f ++ List.replicate (n - i) 0
theorem rowFill_len (f : Nat → Int) {n i : Nat} (h : i ≤ n) : (rowFill f n i).length = n := by unfold rowFill; simp; omega
theorem rowFill_set (f : Nat → Int) {n i : Nat} (h : i < n) : (rowFill f n i).set i (f i) = rowFill f n (i + 1) := by
 unfold rowFill
 rw [range_snoc, List.set_append_right _ _ (by simp), show n - i = (n - (i + 1)) + 1 by omega, List.replicate_succ]
 simp
theorem rowFill_end (f : Nat → Int) (n : Nat) : rowFill f n n = (List.range n).map f := by unfold rowFill; simp
theorem row_put {W : World} {base g n cap i : Nat} {f : Nat → Int} (h : Kd.R (Kd.int .i64) 3 W base (fun _ => True) (.slice (some ⟨g, 0, none⟩) n cap) (rowFill f n i)) (hi : i < n) : Kd.R (Kd.int .i64) 3 (W.setCell ⟨g, i, none⟩ (.int .i64 (f i))) base (fun _ => True) (.slice (some ⟨g, 0, none⟩) n cap) (rowFill f n (i + 1)) := by
 have hrl := rowFill_len f (Nat.le_of_lt hi)
 have h2 : Kd.R (Kd.int .i64) 3 W base (fun _ => True) (.slice (some ⟨g, 0, none⟩) (rowFill f n i).length cap) (rowFill f n i) := by rw [hrl]; exact h
 have hput := (Kd.R_put (enc := Value.int .i64) (h1 := fun _ => rfl) h2 (i : Int) (f i)).1
 simp only [Int.toNat_natCast] at hput
 rw [rowFill_set f hi, hrl] at hput
 exact hput
/-- Where tame's variables lie. -/
structure TameAt (w : World) (A0 : Option Addr) (c0 : Nat) (a : List Int) (A1 : Option Addr) (c1 : Nat) (b : List (List Int)) (A2 : Option Addr) (c2 : Nat) (c : List Int) (u0 u1 u2 : Value) (w' : World) : Prop where
 b1 : w'.heap[w.heap.size]? = some (.cells #[.slice A0 a.length c0, .slice A1 b.length c1, .slice A2 c.length c2] 25 (0, 0))
 b2 : w'.heap[w.heap.size + 1]? = some (.cells #[.slice none 0 0, .slice none 0 0, .slice none 0 0] 25 (0, 0))
 b4 : w'.heap[w.heap.size + 1 + 1]? = some (.cells #[u0, u1, u2] 25 (0, 0))
 bl : Below w.heap.size w w'
theorem TameAt.below {w : World} {A0 : Option Addr} {c0 : Nat} {a : List Int} {A1 : Option Addr} {c1 : Nat} {b : List (List Int)} {A2 : Option Addr} {c2 : Nat} {c : List Int} {u0 u1 u2 : Value} {w' w2 : World} (h : TameAt w A0 c0 a A1 c1 b A2 c2 c u0 u1 u2 w') (hb : Below w'.heap.size w' w2) : TameAt w A0 c0 a A1 c1 b A2 c2 c u0 u1 u2 w2 :=
 ⟨blk_below h.b1 hb, blk_below h.b2 hb, blk_below h.b4 hb, below_step h.bl hb⟩
/-- append of one whole number, as an arm: 'at_builtin; refine (app_int ..) .. rfl rfl rfl rfl ?_'. -/
theorem app_int {w W : World} {base : Nat} {ok : Nat → Prop} {A : Option Addr} {c : Nat} {xs : List Int} {x : Int} (hr : Kd.R (Kd.int .i64) 3 W base ok (.slice A xs.length c) xs) (hB : Below base w W) (hbase : base ≤ W.heap.size) (hfresh : ∀ k, W.heap.size ≤ k → ok k) (hl : xs.length ≤ 1000000) (i j : Nat) (ops : Array Oper) (rest : List Oper) (o : Oper) (a : Act) (Q : Exit → Act → World → Prop)
  (hgd : o.guard = none) (ho : o.op = .call { callee := .builtin .append, args := #[.tmp i, .tmp j], argTypes := #[22, 22] }) (hs : a.eval (.tmp i) = .slice A xs.length c) (hx : a.eval (.tmp j) = .slice (some ⟨W.heap.size, 0, none⟩) 1 1)
  (h : ∀ A' c' w', Kd.R (Kd.int .i64) 3 w' base ok (.slice A' (xs.length + 1) c') (xs ++ [x]) → Below base w w' → W.grownBy w' (Value.slice A xs.length c).ownBlock → ((Value.slice A' (xs.length + 1) c').ownBlock = (Value.slice A xs.length c).ownBlock ∨ ∃ q, (Value.slice A' (xs.length + 1) c').ownBlock = some q ∧ W.heap.size ≤ q) → wpList Tryd.prog ops Q rest (a.put o.dst (.slice A' (xs.length + 1) c')) w') :
  wpList Tryd.prog ops Q (o :: rest) a (W.alloc (.cells #[.int .i64 x] 3)) := by
 refine Kd.R_append (Kd.int .i64) (w0 := w) base hgd (.tmp i) (.tmp j) 22 3 (.int .i64 0) 8 ho Tryd.underlying22 info3w rfl (by decide) (by omega) (.slice A xs.length c) xs x [.int .i64 x] ok (fun _ => False) hs hx rfl (fun _ h => h.elim) hfresh hr hB hbase (by omega) ?_
 intro v1 w1 ho hb hg hat
 obtain ⟨A', c', rfl⟩ := Kd.R_slice ho
 have e : (xs ++ [x]).length = xs.length + 1 := by simp
 rw [e] at ho hat ⊢
 exact h A' c' w1 ho hb hg hat
theorem tame_w (x : Int) : wrap64 (1 + modN x 100) = 1 + modN x 100 := by have := modN_in x 100 (by omega); unfold wrap64; omega
theorem tame_bit (i t : Nat) : Int.tmod ((i : Int) / 2 ^ t) 2 = ((i / 2 ^ t % 2 : Nat) : Int) := by
 have e : (i : Int) / 2 ^ t = ((i / 2 ^ t : Nat) : Int) := by simp
 rw [e, Int.tmod_eq_emod_of_nonneg (Int.natCast_nonneg _)]; omega
theorem tameX_lo {x : Int} (h : x < 1 ∨ x > 1000) : wrap64 (1 + modN x 1000) = tameX x := by
 have := modN_in x 1000 (by omega)
 unfold tameX
 rw [if_pos h]
 unfold wrap64; omega
theorem tameX_mid {x : Int} (h1 : ¬ x < 1) (h2 : ¬ x > 1000) : x = tameX x := by
 unfold tameX; rw [if_neg (by rintro (h | h); exact h1 h; exact h2 h)]
theorem tameS {w : World} {A0 : Option Addr} {c0 : Nat} {a : List Int} {A1 : Option Addr} {c1 : Nat} {b : List (List Int)} {A2 : Option Addr} {c2 : Nat} {c : List Int} {u0 u1 u2 : Value} {w' : World} (h : TameAt w A0 c0 a A1 c1 b A2 c2 c u0 u1 u2 w') :
  w'.cell? ⟨w.heap.size + 1 + 1, 0, none⟩ = some u0 ∧ w'.cell? ⟨w.heap.size + 1 + 1, 1, none⟩ = some u1 ∧ w'.cell? ⟨w.heap.size + 1 + 1, 2, none⟩ = some u2 ∧ w'.cell? ⟨w.heap.size, 2, none⟩ = some (.slice A2 c.length c2) :=
 ⟨(blk_cell h.b4 0).trans rfl, (blk_cell h.b4 1).trans rfl, (blk_cell h.b4 2).trans rfl, (blk_cell h.b1 2).trans rfl⟩
/-- What with leaves of the rest, and the three lists stored anew. -/
theorem tame_store {w : World} {A0 : Option Addr} {c0 : Nat} {a : List Int} {A1 : Option Addr} {c1 : Nat} {b : List (List Int)} {A2 : Option Addr} {c2 : Nat} {c : List Int} {u0 u1 u2 v1 v2 : Value} {w' w3 : World} {ws : List Int} {xs : List (List Int)} {p : List Int} {cs : List Int} {cost : Int}
  (HT : TameAt w A0 c0 a A1 c1 b A2 c2 c u0 u1 u2 w') (h0 : Kd.R (Kd.int .i64) 3 w' w.heap.size (fun k => some k ≠ u2.ownBlock) u0 ws) (h1 : Kd.R (Kd.slice 3 (Kd.int .i64)) 22 w' w.heap.size (fun k => True ∧ some k ≠ u2.ownBlock) u1 xs) (h2 : Kd.R (Kd.int .i64) 3 w' w.heap.size (fun k => some k ≠ u0.ownBlock) u2 cs)
  (hW : WithPost (Kd.slice 3 (Kd.int .i64)) w' w.heap.size u0 u1 u2 xs p cs cost (fun _ => True) (fun k => some k ≠ u0.ownBlock) v1 v2 w3) :
  TameAt w A0 c0 a A1 c1 b A2 c2 c u0 v1 v2 (((w3.setCell ⟨w.heap.size + 1 + 1, 0, none⟩ u0).setCell ⟨w.heap.size + 1 + 1, 1, none⟩ v1).setCell ⟨w.heap.size + 1 + 1, 2, none⟩ v2) ∧
  Kd.R (Kd.int .i64) 3 (((w3.setCell ⟨w.heap.size + 1 + 1, 0, none⟩ u0).setCell ⟨w.heap.size + 1 + 1, 1, none⟩ v1).setCell ⟨w.heap.size + 1 + 1, 2, none⟩ v2) w.heap.size (fun k => some k ≠ v2.ownBlock) u0 ws ∧
  Kd.R (Kd.slice 3 (Kd.int .i64)) 22 (((w3.setCell ⟨w.heap.size + 1 + 1, 0, none⟩ u0).setCell ⟨w.heap.size + 1 + 1, 1, none⟩ v1).setCell ⟨w.heap.size + 1 + 1, 2, none⟩ v2) w.heap.size (fun k => True ∧ some k ≠ v2.ownBlock) v1 (xs ++ [p]) ∧
  Kd.R (Kd.int .i64) 3 (((w3.setCell ⟨w.heap.size + 1 + 1, 0, none⟩ u0).setCell ⟨w.heap.size + 1 + 1, 1, none⟩ v1).setCell ⟨w.heap.size + 1 + 1, 2, none⟩ v2) w.heap.size (fun k => some k ≠ u0.ownBlock) v2 (cs ++ [cost]) := by
 have k1 := (hW.keep _ (blk_lt HT.b1) (Kd.R_ne h1 HT.b1 (by decide)) (Kd.R_ne h2 HT.b1 (by decide))).trans HT.b1
 have k2 := (hW.keep _ (blk_lt HT.b2) (Kd.R_ne h1 HT.b2 (by decide)) (Kd.R_ne h2 HT.b2 (by decide))).trans HT.b2
 have k4 := (hW.keep _ (blk_lt HT.b4) (Kd.R_ne h1 HT.b4 (by decide)) (Kd.R_ne h2 HT.b4 (by decide))).trans HT.b4
 have q0 : Kd.R (Kd.int .i64) 3 w3 w.heap.size (fun k => some k ≠ v2.ownBlock) u0 ws := by
  refine Kd.R_mono (Kd.R_step (Kd.R_tight rfl h0) (fun k hk hlt => hW.keep k hlt ?_ ?_)) (fun k hk => ?_)
  ·intro e
   obtain ⟨cl, hcl⟩ := Kd.R_typed h0 k hk.symm
   obtain ⟨cl2, hcl2⟩ := Kd.R_typed h1 k e.symm
   rw [hcl] at hcl2
   injection hcl2 with hcl2
   injection hcl2 with _ h _
   exact absurd h (by decide)
  ·exact h0.1 k hk.symm
  ·rcases hW.at2 with h | ⟨q, h, hq⟩
   ·rw [h]; exact h0.1 k hk.symm
   ·rw [h]
    intro e
    injection e with e
    have := Kd.R_lt h0 k hk.symm
    omega
 have g0 := blk_set k4 0 u0
 have g1 := blk_set g0 1 v1
 have hne1 : w.heap.size ≠ w.heap.size + 1 + 1 := by omega
 have hne2 : w.heap.size + 1 ≠ w.heap.size + 1 + 1 := by omega
 have hle : w.heap.size ≤ w.heap.size + 1 + 1 := by omega
 refine ⟨⟨blk_far (blk_far (blk_far k1 hne1 _) hne1 _) hne1 _, blk_far (blk_far (blk_far k2 hne2 _) hne2 _) hne2 _, (blk_set g1 2 v2).trans rfl, ((((HT.bl.trans hW.below).setCell hle _).setCell hle _).setCell hle _)⟩, ?_, ?_, ?_⟩
 ·exact Kd.R_set (Kd.R_set (Kd.R_set q0 k4 (by decide) 0 _) g0 (by decide) 1 _) g1 (by decide) 2 _
 ·exact Kd.R_set (Kd.R_set (Kd.R_set hW.r1 k4 (by decide) 0 _) g0 (by decide) 1 _) g1 (by decide) 2 _
 ·exact Kd.R_set (Kd.R_set (Kd.R_set hW.r2 k4 (by decide) 0 _) g0 (by decide) 1 _) g1 (by decide) 2 _
/-- A row made here, given to with. -/
theorem tame_with {w : World} {A0 : Option Addr} {c0 : Nat} {a : List Int} {A1 : Option Addr} {c1 : Nat} {b : List (List Int)} {A2 : Option Addr} {c2 : Nat} {c : List Int} {AU0 AU1 AU2 AR : Option Addr} {cu0 cu1 cu2 cr : Nat} {wo w' : World} {ws : List Int} {xs : List (List Int)} {p : List Int} {cs : List Int} (cost : Int)
  (HT : TameAt w A0 c0 a A1 c1 b A2 c2 c (.slice AU0 ws.length cu0) (.slice AU1 xs.length cu1) (.slice AU2 cs.length cu2) wo) (h0 : Kd.R (Kd.int .i64) 3 wo w.heap.size (fun k => some k ≠ (Value.slice AU2 cs.length cu2).ownBlock) (.slice AU0 ws.length cu0) ws) (h1 : Kd.R (Kd.slice 3 (Kd.int .i64)) 22 wo w.heap.size (fun k => True ∧ some k ≠ (Value.slice AU2 cs.length cu2).ownBlock) (.slice AU1 xs.length cu1) xs) (h2 : Kd.R (Kd.int .i64) 3 wo w.heap.size (fun k => some k ≠ (Value.slice AU0 ws.length cu0).ownBlock) (.slice AU2 cs.length cu2) cs)
  (hb : Below wo.heap.size wo w') (hp : Kd.R (Kd.int .i64) 3 w' wo.heap.size (fun _ => True) (.slice AR p.length cr) p) (hl1 : xs.length ≤ 1000000) (hl2 : cs.length ≤ 1000000) :
  Calls Tryd.prog 36 #[.agg #[.slice AU0 ws.length cu0, .slice AU1 xs.length cu1, .slice AU2 cs.length cu2], .slice AR p.length cr, .int .i64 cost] w' fun e w3 => ∃ v1 v2, e = .returned (.agg #[.slice AU0 ws.length cu0, v1, v2]) ∧ WithPost (Kd.slice 3 (Kd.int .i64)) w' w.heap.size (.slice AU0 ws.length cu0) (.slice AU1 xs.length cu1) (.slice AU2 cs.length cu2) xs p cs cost (fun _ => True) (fun k => some k ≠ (Value.slice AU0 ws.length cu0).ownBlock) v1 v2 w3 := by
 refine with_core (Kd.slice 3 (Kd.int .i64)) rfl (by decide) w' w.heap.size AU0 ws.length cu0 AU1 cu1 AU2 cu2 AR p.length cr xs p cs cost (fun _ => True) (fun k => some k ≠ (Value.slice AU0 ws.length cu0).ownBlock) (fun k => some k = (Value.slice AR p.length cr).ownBlock ∧ wo.heap.size ≤ k) (Kd.R_below h1 hb) ⟨_, rfl, ?_⟩ ?_ (Kd.R_below h2 hb) (fun _ _ => trivial) ?_ (Nat.le_trans HT.bl.size hb.size) hl1 hl2
 ·exact Kd.R_lower (Kd.R_mono (Kd.R_bound (Kd.R_tight rfl hp)) (fun k hk => ⟨hk.1, hk.2.1⟩)) HT.bl.size
 ·intro k hk
  refine ⟨⟨trivial, fun e => ?_⟩, fun e => ?_⟩
  ·have := Kd.R_lt h2 k e.symm; omega
  ·have := Kd.R_lt h1 k e.symm; omega
 ·intro k hk e
  have := Kd.R_lt h0 k e.symm
  have := hb.size
  omega
section
variable {A0 : Option Addr} {c0 : Nat} {a : List Int} {A1 : Option Addr} {c1 : Nat} {b : List (List Int)} {A2 : Option Addr} {c2 : Nat} {c : List Int} {w : World}
set_option maxHeartbeats 16000000 in
set_option maxRecDepth 100000 in
theorem tame_n (h : CaseAt w A0 c0 a A1 c1 b A2 c2 c) : Calls Tryd.prog 33 #[.agg #[.slice A0 a.length c0, .slice A1 b.length c1, .slice A2 c.length c2]] w (TamePost a b c w) := by
 have H := Aside0.mk h
 have hm0 := Kd.C_max h.r0
 obtain ⟨n, hn⟩ : ∃ n, n = tameN a := ⟨_, rfl⟩
 have HN := Aside0.mk hn
 have hn10 : n ≤ 10 := by rw [hn]; exact (tameN_in a).2
 have HTN := Aside0.mk (tameN_eq a)
 rw [← hn] at HTN
 clear h hn
 go_enter Tryd.func33, Tryd.ntmps33
 go_wp2_with (go_at_call 34; refine (mod_n _ 10 (by omega) (by omega) _).mono ?_; rintro e w' ⟨rfl, ⟨nd, rfl⟩⟩)
 rw [HTN.out]
 obtain ⟨w1, hw1⟩ : ∃ w1, w1 = (((w.alloc (.cells #[.slice A0 a.length c0, .slice A1 b.length c1, .slice A2 c.length c2] 25)).alloc (.cells #[.slice none 0 0, .slice none 0 0, .slice none 0 0] 25)).drewN nd).alloc (.cells #[.slice none 0 0, .slice none 0 0, .slice none 0 0] 25) := ⟨_, rfl⟩
 have HT0 := Aside0.mk (show TameAt w A0 c0 a A1 c1 b A2 c2 c (.slice none 0 0) (.slice none 0 0) (.slice none 0 0) w1 by
  rw [hw1]
  refine ⟨blk_alloc (blk_drewN (blk_alloc (blk_new w _) _) _) _, blk_alloc (blk_drewN ?_ _) _, ?_, below_alloc (pw_below_drewN (below_alloc (below_alloc (Below.refl _ _) _) _) _) _⟩
  ·have := blk_new (w.alloc (.cells #[.slice A0 a.length c0, .slice A1 b.length c1, .slice A2 c.length c2] 25)) (.cells #[.slice none 0 0, .slice none 0 0, .slice none 0 0] 25)
   rwa [size_alloc'] at this
  ·have := blk_new (((w.alloc (.cells #[.slice A0 a.length c0, .slice A1 b.length c1, .slice A2 c.length c2] 25)).alloc (.cells #[.slice none 0 0, .slice none 0 0, .slice none 0 0] 25)).drewN nd) (.cells #[.slice none 0 0, .slice none 0 0, .slice none 0 0] 25)
   rwa [show ((((w.alloc (.cells #[.slice A0 a.length c0, .slice A1 b.length c1, .slice A2 c.length c2] 25)).alloc (.cells #[.slice none 0 0, .slice none 0 0, .slice none 0 0] 25)).drewN nd).heap.size) = w.heap.size + 1 + 1 from by show (((w.alloc (.cells #[.slice A0 a.length c0, .slice A1 b.length c1, .slice A2 c.length c2] 25)).alloc (.cells #[.slice none 0 0, .slice none 0 0, .slice none 0 0] 25)).heap.size) = _; rw [size_alloc', size_alloc']] at this)
 rw [← hw1]
 clear hw1
 go_loopg [5] n (fun kq v5 w' => ∃ (k : Nat) (u : Value), v5 = .int .i64 k ∧ Aside0 (kq + k = n) ∧ Aside0 (TameAt w A0 c0 a A1 c1 b A2 c2 c u (.slice none 0 0) (.slice none 0 0) w') ∧ Aside0 (Kd.R (Kd.int .i64) 3 w' w.heap.size (fun _ => True) u ((tameW a).take k)))
 case atStart => exact ⟨0, .slice none 0 0, rfl, ⟨by omega⟩, HT0, ⟨Kd.R_nil _ _ _ _ _⟩⟩
 case round =>
  obtain ⟨k, u, rfl, HKQ, HT1, HR1⟩ := hrel
  obtain ⟨k1, rfl⟩ : ∃ k1, k1 = gk := ⟨_, rfl⟩
  obtain ⟨AU, cu, rfl⟩ := Kd.R_slice HR1.out
  obtain ⟨xs, hxs⟩ : ∃ xs, xs = (tameW a).take k := ⟨_, rfl⟩
  rw [← hxs] at HR1 HT1
  by_cases hk : k < n
  ·have HXS := Aside0.mk (show (tameW a).take (k + 1) = xs ++ [tameX (atN a k)] by rw [hxs]; unfold tameW; rw [range_take _ _ _ (by rw [← HN.out]; exact hk)])
   have HXL := Aside0.mk (show xs.length ≤ 10 by rw [hxs, List.length_take]; omega)
   have hz4 : wr.cell? ⟨w.heap.size + 1 + 1, 0, none⟩ = some (.slice AU xs.length cu) := (blk_cell HT1.out.b4 0).trans rfl
   have hz1 : wr.cell? ⟨w.heap.size, 0, none⟩ = some (.slice A0 a.length c0) := (blk_cell HT1.out.b1 0).trans rfl
   clear hxs
   go_upto_region 8 with (go_at_call 35; refine (at_n A0 c0 a k _ (Kd.C_below H.out.r0 HT1.out.bl) H.out.n0).mono ?_; rintro e w' ⟨rfl, ⟨nd, rfl⟩⟩)
   obtain ⟨w2, hw2⟩ : ∃ w2, w2 = wr.drewN nd := ⟨_, rfl⟩
   have HT2 := Aside0.mk (show TameAt w A0 c0 a A1 c1 b A2 c2 c (.slice AU xs.length cu) (.slice none 0 0) (.slice none 0 0) w2 by rw [hw2]; exact HT1.out.below (pw_below_drewN (Below.refl _ _) _))
   have HR2 := Aside0.mk (show Kd.R (Kd.int .i64) 3 w2 w.heap.size (fun _ => True) (.slice AU xs.length cu) xs by rw [hw2]; exact Kd.R_drewN HR1.out _)
   rw [← hw2]
   clear hw2
   obtain ⟨x, hx⟩ : ∃ x, x = atN a k := ⟨_, rfl⟩
   rw [← hx] at HXS ⊢
   clear hx
   by_cases hx1 : x < 1
   case' pos =>
    have hd1 : decide (x < 1) = true := decide_eq_true hx1
    have HX := Aside0.mk (tameX_lo (x := x) (.inl hx1))
    clear hx1
    go_upto_region 10 with (go_at_call 34; refine (mod_n x 1000 (by omega) (by omega) _).mono ?_; rintro e w' ⟨rfl, ⟨nd2, rfl⟩⟩)
    rw [HX.out]
    clear hd1
    have HT3 := Aside0.mk (HT2.out.below (pw_below_drewN (Below.refl _ _) nd2))
    have HR3 := Aside0.mk (Kd.R_drewN HR2.out nd2)
    generalize w2.drewN nd2 = w3 at HT3 HR3 ⊢
   case' neg =>
    have hd1 : decide (x < 1) = false := decide_eq_false hx1
    by_cases hx2 : x > 1000
    case' pos =>
     have hd2 : decide (1000 < x) = true := decide_eq_true hx2
     have HX := Aside0.mk (tameX_lo (x := x) (.inr hx2))
     clear hx1 hx2
     go_upto_region 10 with (go_at_call 34; refine (mod_n x 1000 (by omega) (by omega) _).mono ?_; rintro e w' ⟨rfl, ⟨nd2, rfl⟩⟩)
     rw [HX.out]
     clear hd1 hd2
     have HT3 := Aside0.mk (HT2.out.below (pw_below_drewN (Below.refl _ _) nd2))
     have HR3 := Aside0.mk (Kd.R_drewN HR2.out nd2)
     generalize w2.drewN nd2 = w3 at HT3 HR3 ⊢
    case' neg =>
     have hd2 : decide (1000 < x) = false := decide_eq_false hx2
     have HX := Aside0.mk (tameX_mid hx1 hx2)
     clear hx1 hx2
     go_upto_region 10 with (fail)
     rw [HX.out]
     have HT3 := HT2
     have HR3 := HR2
     generalize w2 = w3 at HT3 HR3 ⊢
   all_goals
    have KEY := Aside0.mk (app_int (x := tameX x) HR3.out HT3.out.bl HT3.out.bl.size (fun _ _ => trivial) (by have := HXL.out; omega) 40 42)
    have hz4 : w3.cell? ⟨w.heap.size + 1 + 1, 0, none⟩ = some (.slice AU xs.length cu) := (blk_cell HT3.out.b4 0).trans rfl
    go_wp2_with (at_builtin; refine KEY.out _ _ _ _ _ rfl rfl rfl rfl ?_; intro A5 c5 w5 ho hb hg hat; have HO5 := Aside0.mk ho; have HB5 := Aside0.mk hb; have HG1 := Aside0.mk (blk_grown HT3.out.b1 hg (Kd.R_ne HR3.out HT3.out.b1 (by decide))); have HG2 := Aside0.mk (blk_grown HT3.out.b2 hg (Kd.R_ne HR3.out HT3.out.b2 (by decide))); have g4 := blk_grown HT3.out.b4 hg (Kd.R_ne HR3.out HT3.out.b4 (by decide)); have HG4 := Aside0.mk g4; clear hz4; have hz5 : w5.cell? ⟨w.heap.size + 1 + 1, 0, none⟩ = some (.slice AU xs.length cu) := (blk_cell g4 0).trans rfl; have hf5 := blk_frozen g4 0; clear ho hb hg hat g4)
    clear hz5 hf5
    go_roundg (k1 - 1)
    case measure => have := HKQ.out; omega
    case rel =>
     refine ⟨k + 1, .slice A5 (xs.length + 1) c5, by go_num, ⟨by have := HKQ.out; omega⟩, ⟨⟨blk_far HG1.out (by show w.heap.size ≠ w.heap.size + 1 + 1; omega) _, blk_far HG2.out (by show w.heap.size + 1 ≠ w.heap.size + 1 + 1; omega) _, (blk_set HG4.out 0 _).trans rfl, HB5.out.setCell (by show w.heap.size ≤ w.heap.size + 1 + 1; omega) _⟩⟩, ⟨?_⟩⟩
     rw [HXS.out]
     exact Kd.R_set HO5.out HG4.out (by decide) 0 _
  ·obtain rfl : n = k := by have := HKQ.out; omega
   have hxs2 : xs = tameW a := by rw [hxs, HN.out, ← tameW_len]; exact List.take_length
   rw [hxs2] at HR1 HT1
   clear hxs hxs2
   go_wp2
   have HKB := Aside0.mk (show tameK b ≤ b.length from Nat.min_le_left _ _)
   have HK6 := Aside0.mk (show tameK b ≤ 6 from Nat.min_le_right _ _)
   clear HKQ
   go_loopg [8] (tameK b) (fun kq v8 w' => ∃ (t : Nat) (u0 u1 u2 : Value), v8 = .int .i64 t ∧ Aside0 (kq + t = tameK b) ∧ Aside0 (TameAt w A0 c0 a A1 c1 b A2 c2 c u0 u1 u2 w') ∧ Aside0 (Kd.R (Kd.int .i64) 3 w' w.heap.size (fun k => some k ≠ u2.ownBlock) u0 (tameW a)) ∧ Aside0 (Kd.R (Kd.slice 3 (Kd.int .i64)) 22 w' w.heap.size (fun k => True ∧ some k ≠ u2.ownBlock) u1 (tameB1 n b t)) ∧ Aside0 (Kd.R (Kd.int .i64) 3 w' w.heap.size (fun k => some k ≠ u0.ownBlock) u2 (tameC1 c t)))
   case atStart => exact ⟨0, _, .slice none 0 0, .slice none 0 0, rfl, ⟨by omega⟩, HT1, ⟨Kd.R_mono HR1.out (fun k _ => by simp [Value.ownBlock])⟩, ⟨Kd.R_nil _ _ _ _ _⟩, ⟨Kd.R_nil _ _ _ _ _⟩⟩
   case round =>
    clear HT1 HR1
    obtain ⟨t, u0, u1, u2, rfl, HKT, HTA, HU0, HU1, HU2⟩ := hrel
    obtain ⟨k2, rfl⟩ : ∃ k2, k2 = gk := ⟨_, rfl⟩
    obtain ⟨AU0, cu0, rfl⟩ := Kd.R_slice HU0.out
    obtain ⟨AU1, cu1, rfl⟩ := Kd.R_slice HU1.out
    obtain ⟨AU2, cu2, rfl⟩ := Kd.R_slice HU2.out
    have hz1 : wr.cell? ⟨w.heap.size, 1, none⟩ = some (.slice A1 b.length c1) := (blk_cell HTA.out.b1 1).trans rfl
    by_cases ht : t < tameK b
    ·have htb : t < b.length := by have := HKB.out; omega
     obtain ⟨ad1, cs1, e1, hcs1, hK1, hcc1⟩ := ReadsRow.get_ H.out.r1 [] (t : Int) (by omega) (by omega)
     obtain ⟨Ar, cr, rfl, hcr, hCr⟩ := hK1
     simp only [Int.toNat_natCast] at hcr hCr hcc1
     obtain ⟨row, hrow⟩ : ∃ row, b.getD t [] = row := ⟨_, rfl⟩
     rw [hrow] at hcr hCr hcc1
     have hcell1 := hcc1 0 _ rfl
     simp only [Nat.mul_one, Nat.add_zero, Kd.slice] at hcell1
     have HROW := Aside0.mk (show rd_L1 b (t : Int) = row by unfold rd_L1; rw [Int.toNat_natCast]; exact hrow)
     have HCR := Aside0.mk hCr
     have HCL := Aside0.mk hcr
     have HC1 := Aside0.mk hcell1
     have HC2 := Aside0.mk (show ∀ w', Below w.heap.size w w' → w'.cell? (ad1.add t) = some (.slice Ar row.length cr) from fun w' hb => pw_cell_below hb HC1.out)
     clear hcs1 hcc1 hrow hCr hcr hcell1
     cases e1
     have hmb := Kd.C_max H.out.r1
     have hd1 : decide (t < b.length) = true := decide_eq_true htb
     have hd2 : decide (t < 6) = true := decide_eq_true (by have := HK6.out; omega)
     have hd3 : decide ((t : Int) < 6) = true := decide_eq_true (by have := HK6.out; omega)
     have hn0 : (0 : Int) ≤ (n : Int) := by omega
     go_upto_region 15 with ((with_reducible refine gate_dst (N := 57) rfl ?_); refine Kd.R_make (Kd.int .i64) _ 3 rfl (N := 57) rfl 22 _ _ rfl (n : Int) rfl rfl Tryd.underlying22 (.int .i64 0) 8 info3w rfl (by decide) (by omega) 0 (ok := fun _ => True) (okp := fun _ => True) rfl (fun _ hk => hk) trivial hn0 (by simp only [Int.toNat_natCast]; omega) (Below.refl _ _) (Nat.le_refl _) ?_; intro v57 w3 ho hb hg_ hnew_; simp only [Int.toNat_natCast] at ho; have HO3 := Aside0.mk ho; have HB3 := Aside0.mk hb; clear ho hb hg_ hnew_)
     clear hz1 hd1 hd2 hd3
     obtain ⟨wo, rfl⟩ : ∃ wo : World, wo = wr := ⟨_, rfl⟩
     have hn1 : 1 ≤ n := by rw [HN.out]; exact (tameN_in a).1
     obtain ⟨g, n3, rfl, hgb, hgl, cells, hgc⟩ := Kd.R_form HO3.out (by simp; omega)
     have hln : (List.replicate n (0 : Int)).length = n := List.length_replicate ..
     rw [hln] at HO3 ⊢
     clear hln hgc cells hgl
     go_wp2
     go_loopg [10] n (fun kq v10 w' => ∃ i : Nat, v10 = .int .i64 i ∧ Aside0 (kq + i = n) ∧ Aside0 (Below wo.heap.size wo w') ∧ Aside0 (Kd.R (Kd.int .i64) 3 w' wo.heap.size (fun _ => True) (.slice (some ⟨g, 0, none⟩) n n3) (rowFill (fun i => modN (atN row i) 2) n i)))
     case atStart => exact ⟨0, rfl, ⟨by omega⟩, HB3, HO3⟩
     case round =>
      obtain ⟨i, rfl, HKI, HBI, HRI⟩ := hrel
      obtain ⟨k3, rfl⟩ : ∃ k3, k3 = gk := ⟨_, rfl⟩
      have HBW := Aside0.mk (below_step HTA.out.bl HBI.out)
      by_cases hi : i < n
      ·have hz1 : wr.cell? ⟨w.heap.size, 1, none⟩ = some (.slice (some ad1) b.length c1) := (blk_cell (HTA.out.below HBI.out).b1 1).trans rfl
       have hzr := HC2.out wr HBW.out
       have hrl := rowFill_len (fun i => modN (atN row i) 2) (Nat.le_of_lt hi)
       have hR := HRI.out
       rw [show (Value.slice (some ⟨g, 0, none⟩) n n3) = .slice (some ⟨g, 0, none⟩) (rowFill (fun i => modN (atN row i) 2) n i).length n3 from by rw [hrl]] at hR
       obtain ⟨hcw, hfw⟩ := Kd.R_cell (enc := Value.int .i64) (h1 := fun _ => rfl) (0 : Int) hR (i : Int) (by omega) (by rw [hrl]; omega)
       obtain ⟨x0, hx0⟩ : ∃ x0, rdOf (0 : Int) (rowFill (fun i => modN (atN row i) 2) n i) (i : Int) = x0 := ⟨_, rfl⟩
       rw [hx0] at hcw
       simp only [Int.toNat_natCast] at hcw hfw
       clear hR hrl hx0
       go_wp2_with (first | (go_at_call 35; refine (at_n Ar cr row i _ (Kd.C_below HCR.out HBW.out) HCL.out).mono ?_; rintro e w' ⟨rfl, ⟨nd1, rfl⟩⟩) | (go_at_call 34; refine (mod_n _ 2 (by omega) (by omega) _).mono ?_; rintro e w' ⟨rfl, ⟨nd2, rfl⟩⟩))
       clear hz1 hzr hcw hfw
       go_roundg (k3 - 1)
       case measure => have := HKI.out; omega
       case rel => exact ⟨i + 1, by go_num, ⟨by have := HKI.out; omega⟩, ⟨(pw_below_drewN HBI.out (nd1 + nd2)).setCell (show wo.heap.size ≤ (⟨g, i, none⟩ : Addr).block from hgb) _⟩, ⟨row_put (Kd.R_drewN HRI.out (nd1 + nd2)) hi⟩⟩
      ·obtain rfl : n = i := by have := HKI.out; omega
       have HRW := Aside0.mk (show Kd.R (Kd.int .i64) 3 wr wo.heap.size (fun _ => True) (.slice (some ⟨g, 0, none⟩) (tameRow n row).length n3) (tameRow n row) by
        have e := HRI.out
        rw [rowFill_end] at e
        have el : (tameRow n row).length = n := by unfold tameRow; simp
        rw [el]; exact e)
       clear HRI HKI
       go_upto_region 19 with (fail)
       have HT9 := Aside0.mk (HTA.out.below (below_drew HBI.out))
       refine start_ (n := 11) (S := fun w' => w'.cell? ⟨w.heap.size + 1 + 1, 0, none⟩ = some (.slice AU0 (tameW a).length cu0) ∧ w'.cell? ⟨w.heap.size + 1 + 1, 1, none⟩ = some (.slice AU1 (tameB1 n b t).length cu1) ∧ w'.cell? ⟨w.heap.size + 1 + 1, 2, none⟩ = some (.slice AU2 (tameC1 c t).length cu2) ∧ w'.cell? ⟨w.heap.size, 2, none⟩ = some (.slice A2 c.length c2)) (ds := [10]) #[false, false, false, false, false, false, false, false, false, false, false] (by kernel_rfl) rfl rfl (tameS HT9.out) (fun hHeld => ?_)
       refine pure_ (i := 1) (N := (some 75)) (v := ?_) (a' := ?_) #[false, true, false, false, false, false, false, false, false, false, false] rfl rfl (by kernel_rfl) (fun _ _ _ h => h) (Or.inl ⟨by rfl, ?_⟩) ?_ ?_
       rotate_left
       ·intro w'
        go_simp
        with_reducible rfl
       rotate_left
       ·simp only [Act.put, List.setIfInBounds_toArray, List.set_cons_zero, List.set_cons_succ, i64_w, i32_w]
        rfl
       refine pure_ (i := 2) (N := (some 76)) (v := ?_) (a' := ?_) #[false, true, true, false, false, false, false, false, false, false, false] rfl rfl (by kernel_rfl) (fun _ _ _ h => h) (Or.inl ⟨by rfl, ?_⟩) ?_ ?_
       rotate_left
       ·intro w'
        go_simp
        with_reducible rfl
       rotate_left
       ·simp only [Act.put, List.setIfInBounds_toArray, List.set_cons_zero, List.set_cons_succ, i64_w, i32_w]
        rfl
       refine pure_ (i := 4) (N := (some 78)) (v := ?_) (a' := ?_) #[false, true, true, false, true, false, false, false, false, false, false] rfl rfl (by kernel_rfl) (fun _ _ _ h => h) (Or.inl ⟨by rfl, ?_⟩) ?_ ?_
       rotate_left
       ·intro w'
        go_simp
        with_reducible rfl
       rotate_left
       ·simp only [Act.put, List.setIfInBounds_toArray, List.set_cons_zero, List.set_cons_succ, i64_w, i32_w]
        rfl
       refine take_ (i := 0) (N := (some 74)) (v := ?_) (a' := ?_) #[true, true, true, false, true, false, false, false, false, false, false] rfl rfl (by kernel_rfl) (fun _ _ _ h => h) (Or.inl ⟨by rfl, ?_⟩) hHeld ?_ ?_
       rotate_left
       ·rintro w' ⟨s0, s1, s2, s3⟩
        go_simp
        with_reducible rfl
       rotate_left
       ·simp only [Act.put, List.setIfInBounds_toArray, List.set_cons_zero, List.set_cons_succ, i64_w, i32_w]
        rfl
       refine take_ (i := 3) (N := (some 77)) (v := ?_) (a' := ?_) #[true, true, true, true, true, false, false, false, false, false, false] rfl rfl (by kernel_rfl) (fun _ _ _ h => h) (Or.inl ⟨by rfl, ?_⟩) hHeld ?_ ?_
       rotate_left
       ·rintro w' ⟨s0, s1, s2, s3⟩
        go_simp
        with_reducible rfl
       rotate_left
       ·simp only [Act.put, List.setIfInBounds_toArray, List.set_cons_zero, List.set_cons_succ, i64_w, i32_w]
        rfl
       refine one_ (i := 5) (N := (some 79)) #[true, true, true, true, true, true, false, false, false, false, false] rfl rfl (by kernel_rfl) (by decide) (fun K hK => ?_)
       refine goes_ Tryd.func35 (by kernel_rfl) rfl #[.slice A2 c.length c2, .int .i64 (t : Int)] (by rfl) rfl rfl (by (try simp only [List.map_toArray, List.map_cons, List.map_nil]); first | done | rfl) ?_
       refine (at_n A2 c2 c t _ (Kd.C_below H.out.r2 HT9.out.bl) H.out.n2).mono ?_
       rintro e w' ⟨rfl, ⟨nd1, rfl⟩⟩
       refine ⟨_, rfl, ?_⟩
       refine hK.out _ _ (tameS (HT9.out.below (pw_below_drewN (Below.refl _ _) _))) (fun hHeld => ?_)
       clear hK K
       refine norm_ (a' := ?_) ?_ ?_
       rotate_left
       ·show Act.put _ (some 79) _ = _
        simp only [Act.put, List.setIfInBounds_toArray, List.set_cons_zero, List.set_cons_succ, i64_w, i32_w]
        rfl
       refine pure_ (i := 6) (N := (some 80)) (v := ?_) (a' := ?_) #[true, true, true, true, true, true, true, false, false, false, false] rfl rfl (by kernel_rfl) (fun _ _ _ h => h) (Or.inl ⟨by rfl, ?_⟩) ?_ ?_
       rotate_left
       ·intro w'
        go_simp
        with_reducible rfl
       rotate_left
       ·simp only [Act.put, List.setIfInBounds_toArray, List.set_cons_zero, List.set_cons_succ, i64_w, i32_w]
        rfl
       refine one_ (i := 7) (N := (some 81)) #[true, true, true, true, true, true, true, true, false, false, false] rfl rfl (by kernel_rfl) (by decide) (fun K hK => ?_)
       refine goes_ Tryd.func34 (by kernel_rfl) rfl #[.int .i64 (wrap64 (atN c t - 1)), .int .i64 100] (by rfl) rfl rfl (by (try simp only [List.map_toArray, List.map_cons, List.map_nil]); first | done | rfl) ?_
       refine (mod_n _ 100 (by omega) (by omega) _).mono ?_
       rintro e w' ⟨rfl, ⟨nd2, rfl⟩⟩
       refine ⟨_, rfl, ?_⟩
       refine hK.out _ _ (tameS (HT9.out.below (pw_below_drewN (pw_below_drewN (Below.refl _ _) nd1) nd2))) (fun hHeld => ?_)
       clear hK K
       refine norm_ (a' := ?_) ?_ ?_
       rotate_left
       ·show Act.put _ (some 81) _ = _
        simp only [Act.put, List.setIfInBounds_toArray, List.set_cons_zero, List.set_cons_succ, i64_w, i32_w]
        rfl
       refine pure_ (i := 8) (N := (some 82)) (v := ?_) (a' := ?_) #[true, true, true, true, true, true, true, true, true, false, false] rfl rfl (by kernel_rfl) (fun _ _ _ h => h) (Or.inl ⟨by rfl, ?_⟩) ?_ ?_
       rotate_left
       ·intro w'
        go_simp
        with_reducible rfl
       rotate_left
       ·simp only [Act.put, List.setIfInBounds_toArray, List.set_cons_zero, List.set_cons_succ, i64_w, i32_w]
        rfl
       refine one_ (i := 9) (N := (some 83)) #[true, true, true, true, true, true, true, true, true, true, false] rfl rfl (by kernel_rfl) (by decide) (fun K hK => ?_)
       refine goes_ Tryd.func36 (by kernel_rfl) rfl #[.agg #[.slice AU0 (tameW a).length cu0, .slice AU1 (tameB1 n b t).length cu1, .slice AU2 (tameC1 c t).length cu2], .slice (some ⟨g, 0, none⟩) n n3, .int .i64 (wrap64 (1 + modN (wrap64 (atN c t - 1)) 100))] (by rfl) rfl rfl (by (try simp only [List.map_toArray, List.map_cons, List.map_nil]); first | done | rfl) ?_
       have hel : (tameRow n row).length = n := by unfold tameRow; simp
       have HBD := Aside0.mk (show Below wo.heap.size wo ((wr.drew.drewN nd1).drewN nd2) from pw_below_drewN (pw_below_drewN (below_drew HBI.out) nd1) nd2)
       have hrw := Kd.R_drewN (Kd.R_drewN (Kd.R_drew HRW.out) nd1) nd2
       rw [hel] at hrw
       have HRD := Aside0.mk hrw
       clear hrw
       generalize (wr.drew.drewN nd1).drewN nd2 = w5 at HBD HRD ⊢
       have hwt := tame_with (wrap64 (1 + modN (wrap64 (atN c t - 1)) 100)) HTA.out HU0.out HU1.out HU2.out HBD.out (p := tameRow n row) (AR := some ⟨g, 0, none⟩) (cr := n3) (by rw [hel]; exact HRD.out) (by unfold tameB1; simp; have := HK6.out; omega) (by unfold tameC1; simp; have := HK6.out; omega)
       rw [hel] at hwt
       refine hwt.mono ?_
       clear hwt
       rintro e w6 ⟨v1, v2, rfl, hwp⟩
       have hst := tame_store (HTA.out.below HBD.out) (Kd.R_below HU0.out HBD.out) (Kd.R_below HU1.out HBD.out) (Kd.R_below HU2.out HBD.out) hwp
       have HST := Aside0.mk hst
       have k4 := (hwp.keep _ (blk_lt (HTA.out.below HBD.out).b4) (Kd.R_ne (Kd.R_below HU1.out HBD.out) (HTA.out.below HBD.out).b4 (by decide)) (Kd.R_ne (Kd.R_below HU2.out HBD.out) (HTA.out.below HBD.out).b4 (by decide))).trans (HTA.out.below HBD.out).b4
       have k1 := (hwp.keep _ (blk_lt (HTA.out.below HBD.out).b1) (Kd.R_ne (Kd.R_below HU1.out HBD.out) (HTA.out.below HBD.out).b1 (by decide)) (Kd.R_ne (Kd.R_below HU2.out HBD.out) (HTA.out.below HBD.out).b1 (by decide))).trans (HTA.out.below HBD.out).b1
       have HK4 := Aside0.mk k4
       have HK1 := Aside0.mk k1
       obtain ⟨AV1, cv1, rfl⟩ := Kd.R_slice hwp.r1
       obtain ⟨AV2, cv2, rfl⟩ := Kd.R_slice hwp.r2
       obtain ⟨m1, hm1⟩ : ∃ m1, m1 = (tameB1 n b t ++ [tameRow n row]).length := ⟨_, rfl⟩
       obtain ⟨m2, hm2⟩ : ∃ m2, m2 = (tameC1 c t ++ [wrap64 (1 + modN (wrap64 (atN c t - 1)) 100)]).length := ⟨_, rfl⟩
       rw [← hm1, ← hm2] at HST
       rw [← hm1, ← hm2]
       clear hst k4 k1 hwp hm1 hm2
       refine ⟨_, rfl, ?_⟩
       refine hK.out _ _ ⟨(blk_cell HK4.out 0).trans rfl, (blk_cell HK4.out 1).trans rfl, (blk_cell HK4.out 2).trans rfl, (blk_cell HK1.out 2).trans rfl⟩ (fun hHeld => ?_)
       clear hK K
       refine norm_ (a' := ?_) ?_ ?_
       rotate_left
       ·show Act.put _ (some 83) _ = _
        simp only [Act.put, List.setIfInBounds_toArray, List.set_cons_zero, List.set_cons_succ, i64_w, i32_w]
        rfl
       refine last_ (i := 10) (N := none) #[true, true, true, true, true, true, true, true, true, true, true] rfl rfl (by kernel_rfl) (by decide) (fun K hK => ?_)
       have hs0 : w6.cell? ⟨w.heap.size + 1 + 1, 0, none⟩ = some (.slice AU0 (tameW a).length cu0) := (blk_cell HK4.out 0).trans rfl
       have hs1 : w6.cell? ⟨w.heap.size + 1 + 1, 1, none⟩ = some (.slice AU1 (tameB1 n b t).length cu1) := (blk_cell HK4.out 1).trans rfl
       have hs2 : w6.cell? ⟨w.heap.size + 1 + 1, 2, none⟩ = some (.slice AU2 (tameC1 c t).length cu2) := (blk_cell HK4.out 2).trans rfl
       have hf0 := blk_frozen HK4.out 0
       have hf1 := blk_frozen HK4.out 1
       have hf2 := blk_frozen HK4.out 2
       refine skip_ (w1 := ?_) (by rfl) rfl ?_ ?_
       rotate_left
       ·go_simp
        rfl
       refine hK.out _ _ ?_
       clear hK K
       clear hs0 hs1 hs2 hf0 hf1 hf2
       refine done_ (by kernel_rfl) ?_
       go_wp2
       go_roundg (k2 - 1)
       case measure => have := HKT.out; omega
       case rel =>
        have e1 : tameB1 n b (t + 1) = tameB1 n b t ++ [tameRow n row] := by unfold tameB1; rw [range_snoc, HROW.out]
        have e2 : tameC1 c (t + 1) = tameC1 c t ++ [wrap64 (1 + modN (wrap64 (atN c t - 1)) 100)] := by unfold tameC1; rw [range_snoc, tame_w]
        refine ⟨t + 1, _, _, _, by go_num, ⟨by have := HKT.out; omega⟩, ⟨HST.out.1⟩, ⟨HST.out.2.1⟩, ⟨?_⟩, ⟨?_⟩⟩
        ·rw [e1]; exact HST.out.2.2.1
        ·rw [e2]; exact HST.out.2.2.2
    ·obtain rfl : t = tameK b := by have := HKT.out; omega
     have hend : (b.length ≤ tameK b) ∨ (tameK b < b.length ∧ 6 ≤ tameK b) := by unfold tameK; omega
     rcases hend with hend | ⟨hend, hend2⟩
     case' inl =>
      have hd1 : decide (tameK b < b.length) = false := decide_eq_false (by omega)
      go_wp2
     case' inr =>
      have hd1 : decide (tameK b < b.length) = true := decide_eq_true hend
      have hd2 : decide (tameK b < 6) = false := decide_eq_false (by omega)
      have hd3 : decide ((tameK b : Int) < 6) = false := decide_eq_false (by omega)
      go_wp2
     all_goals
      clear hz1 HKT
      obtain ⟨B1, hB1⟩ : ∃ B1, B1 = tameB1 n b (tameK b) := ⟨_, rfl⟩
      obtain ⟨C1, hC1⟩ : ∃ C1, C1 = tameC1 c (tameK b) := ⟨_, rfl⟩
      rw [← hB1] at HU1 HTA
      rw [← hC1] at HU0 HU1 HU2 HTA
      have HB1 := Aside0.mk hB1
      have HC1 := Aside0.mk hC1
      have HBL := Aside0.mk (show B1.length ≤ 6 by rw [hB1]; unfold tameB1; simp; exact HK6.out)
      have HCLn := Aside0.mk (show C1.length ≤ 6 by rw [hC1]; unfold tameC1; simp; exact HK6.out)
      clear hB1 hC1
      go_loopg [11] 4 (fun kq v11 w' => ∃ (t : Nat) (u0 u1 u2 : Value), v11 = .int .i64 t ∧ Aside0 (kq + t = 4) ∧ Aside0 (TameAt w A0 c0 a A1 c1 b A2 c2 c u0 u1 u2 w') ∧ Aside0 (Kd.R (Kd.int .i64) 3 w' w.heap.size (fun k => some k ≠ u2.ownBlock) u0 (tameW a)) ∧ Aside0 (Kd.R (Kd.slice 3 (Kd.int .i64)) 22 w' w.heap.size (fun k => True ∧ some k ≠ u2.ownBlock) u1 (B1 ++ tameB2 n t)) ∧ Aside0 (Kd.R (Kd.int .i64) 3 w' w.heap.size (fun k => some k ≠ u0.ownBlock) u2 (C1 ++ tameC2 c t)))
      case atStart => exact ⟨0, _, _, _, rfl, ⟨by omega⟩, HTA, HU0, ⟨by rw [show B1 ++ tameB2 n 0 = B1 from List.append_nil _]; exact HU1.out⟩, ⟨by rw [show C1 ++ tameC2 c 0 = C1 from List.append_nil _]; exact HU2.out⟩⟩
      case round =>
       clear HTA HU0 HU1 HU2
       obtain ⟨t, u0, u1, u2, rfl, HKT, HTA, HU0, HU1, HU2⟩ := hrel
       obtain ⟨k2, rfl⟩ : ∃ k2, k2 = gk := ⟨_, rfl⟩
       obtain ⟨AU0, cu0, rfl⟩ := Kd.R_slice HU0.out
       obtain ⟨AU1, cu1, rfl⟩ := Kd.R_slice HU1.out
       obtain ⟨AU2, cu2, rfl⟩ := Kd.R_slice HU2.out
       obtain ⟨Bt, hBt⟩ : ∃ Bt, Bt = B1 ++ tameB2 n t := ⟨_, rfl⟩
       obtain ⟨Ct, hCt⟩ : ∃ Ct, Ct = C1 ++ tameC2 c t := ⟨_, rfl⟩
       rw [← hBt] at HU1 HTA
       rw [← hCt] at HU0 HU1 HU2 HTA
       by_cases ht : t < 4
       ·have HBT := Aside0.mk (show B1 ++ tameB2 n (t + 1) = Bt ++ [tameBit n t] by rw [hBt]; unfold tameB2; rw [range_snoc, List.append_assoc])
        have HCT := Aside0.mk (show C1 ++ tameC2 c (t + 1) = Ct ++ [wrap64 (1 + modN (atN c t) 100)] by rw [hCt]; unfold tameC2; rw [range_snoc, List.append_assoc, tame_w])
        have HBTL := Aside0.mk (show Bt.length ≤ 10 by rw [hBt]; unfold tameB2; simp; have := HBL.out; omega)
        have HCTL := Aside0.mk (show Ct.length ≤ 10 by rw [hCt]; unfold tameC2; simp; have := HCLn.out; omega)
        clear hBt hCt
        have hd1 : decide (t < 4) = true := decide_eq_true ht
        have hd3 : decide ((t : Int) < 4) = true := decide_eq_true (by omega)
        have hn0 : (0 : Int) ≤ (n : Int) := by omega
        go_upto_region 24 with ((with_reducible refine gate_dst (N := 89) rfl ?_); refine Kd.R_make (Kd.int .i64) _ 3 rfl (N := 89) rfl 22 _ _ rfl (n : Int) rfl rfl Tryd.underlying22 (.int .i64 0) 8 info3w rfl (by decide) (by omega) 0 (ok := fun _ => True) (okp := fun _ => True) rfl (fun _ hk => hk) trivial hn0 (by simp only [Int.toNat_natCast]; omega) (Below.refl _ _) (Nat.le_refl _) ?_; intro v57 w3 ho hb hg_ hnew_; simp only [Int.toNat_natCast] at ho; have HO3 := Aside0.mk ho; have HB3 := Aside0.mk hb; clear ho hb hg_ hnew_)
        clear hd1 hd3
        obtain ⟨wo, rfl⟩ : ∃ wo : World, wo = wr := ⟨_, rfl⟩
        have hn1 : 1 ≤ n := by rw [HN.out]; exact (tameN_in a).1
        obtain ⟨g, n3, rfl, hgb, hgl, cells, hgc⟩ := Kd.R_form HO3.out (by simp; omega)
        have hln : (List.replicate n (0 : Int)).length = n := List.length_replicate ..
        rw [hln] at HO3 ⊢
        clear hln hgc cells hgl
        go_wp2
        go_loopg [13] n (fun kq v13 w' => ∃ i : Nat, v13 = .int .i64 i ∧ Aside0 (kq + i = n) ∧ Aside0 (Below wo.heap.size wo w') ∧ Aside0 (Kd.R (Kd.int .i64) 3 w' wo.heap.size (fun _ => True) (.slice (some ⟨g, 0, none⟩) n n3) (rowFill (fun i => ((i / 2 ^ t % 2 : Nat) : Int)) n i)))
        case atStart => exact ⟨0, rfl, ⟨by omega⟩, HB3, HO3⟩
        case round =>
         obtain ⟨i, rfl, HKI, HBI, HRI⟩ := hrel
         obtain ⟨k3, rfl⟩ : ∃ k3, k3 = gk := ⟨_, rfl⟩
         by_cases hi : i < n
         ·have hrl := rowFill_len (fun i => ((i / 2 ^ t % 2 : Nat) : Int)) (Nat.le_of_lt hi)
          have hR := HRI.out
          rw [show (Value.slice (some ⟨g, 0, none⟩) n n3) = .slice (some ⟨g, 0, none⟩) (rowFill (fun i => ((i / 2 ^ t % 2 : Nat) : Int)) n i).length n3 from by rw [hrl]] at hR
          obtain ⟨hcw, hfw⟩ := Kd.R_cell (enc := Value.int .i64) (h1 := fun _ => rfl) (0 : Int) hR (i : Int) (by omega) (by rw [hrl]; omega)
          obtain ⟨x0, hx0⟩ : ∃ x0, rdOf (0 : Int) (rowFill (fun i => ((i / 2 ^ t % 2 : Nat) : Int)) n i) (i : Int) = x0 := ⟨_, rfl⟩
          rw [hx0] at hcw
          simp only [Int.toNat_natCast] at hcw hfw
          have HBIT := Aside0.mk (tame_bit i t)
          clear hR hrl hx0
          have ht0 : (0 : Int) ≤ (t : Int) := by omega
          go_wp2
          rw [HBIT.out]
          clear hcw hfw ht0
          go_roundg (k3 - 1)
          case measure => have := HKI.out; omega
          case rel => exact ⟨i + 1, by go_num, ⟨by have := HKI.out; omega⟩, ⟨HBI.out.setCell (show wo.heap.size ≤ (⟨g, i, none⟩ : Addr).block from hgb) _⟩, ⟨row_put HRI.out hi⟩⟩
         ·obtain rfl : n = i := by have := HKI.out; omega
          have HRW := Aside0.mk (show Kd.R (Kd.int .i64) 3 wr wo.heap.size (fun _ => True) (.slice (some ⟨g, 0, none⟩) (tameBit n t).length n3) (tameBit n t) by
           have e := HRI.out
           rw [rowFill_end] at e
           have el : (tameBit n t).length = n := by unfold tameBit; simp
           rw [el]; exact e)
          clear HRI HKI
          go_upto_region 28 with (fail)
          have HT9 := Aside0.mk (HTA.out.below (below_drew HBI.out))
          refine start_ (n := 10) (S := fun w' => w'.cell? ⟨w.heap.size + 1 + 1, 0, none⟩ = some (.slice AU0 (tameW a).length cu0) ∧ w'.cell? ⟨w.heap.size + 1 + 1, 1, none⟩ = some (.slice AU1 Bt.length cu1) ∧ w'.cell? ⟨w.heap.size + 1 + 1, 2, none⟩ = some (.slice AU2 Ct.length cu2) ∧ w'.cell? ⟨w.heap.size, 2, none⟩ = some (.slice A2 c.length c2)) (ds := [9]) #[false, false, false, false, false, false, false, false, false, false] (by kernel_rfl) rfl rfl (tameS HT9.out) (fun hHeld => ?_)
          refine pure_ (i := 1) (N := (some 103)) (v := ?_) (a' := ?_) #[false, true, false, false, false, false, false, false, false, false] rfl rfl (by kernel_rfl) (fun _ _ _ h => h) (Or.inl ⟨by rfl, ?_⟩) ?_ ?_
          rotate_left
          ·intro w'
           go_simp
           with_reducible rfl
          rotate_left
          ·simp only [Act.put, List.setIfInBounds_toArray, List.set_cons_zero, List.set_cons_succ, i64_w, i32_w]
           rfl
          refine pure_ (i := 2) (N := (some 104)) (v := ?_) (a' := ?_) #[false, true, true, false, false, false, false, false, false, false] rfl rfl (by kernel_rfl) (fun _ _ _ h => h) (Or.inl ⟨by rfl, ?_⟩) ?_ ?_
          rotate_left
          ·intro w'
           go_simp
           with_reducible rfl
          rotate_left
          ·simp only [Act.put, List.setIfInBounds_toArray, List.set_cons_zero, List.set_cons_succ, i64_w, i32_w]
           rfl
          refine pure_ (i := 4) (N := (some 106)) (v := ?_) (a' := ?_) #[false, true, true, false, true, false, false, false, false, false] rfl rfl (by kernel_rfl) (fun _ _ _ h => h) (Or.inl ⟨by rfl, ?_⟩) ?_ ?_
          rotate_left
          ·intro w'
           go_simp
           with_reducible rfl
          rotate_left
          ·simp only [Act.put, List.setIfInBounds_toArray, List.set_cons_zero, List.set_cons_succ, i64_w, i32_w]
           rfl
          refine take_ (i := 0) (N := (some 102)) (v := ?_) (a' := ?_) #[true, true, true, false, true, false, false, false, false, false] rfl rfl (by kernel_rfl) (fun _ _ _ h => h) (Or.inl ⟨by rfl, ?_⟩) hHeld ?_ ?_
          rotate_left
          ·rintro w' ⟨s0, s1, s2, s3⟩
           go_simp
           with_reducible rfl
          rotate_left
          ·simp only [Act.put, List.setIfInBounds_toArray, List.set_cons_zero, List.set_cons_succ, i64_w, i32_w]
           rfl
          refine take_ (i := 3) (N := (some 105)) (v := ?_) (a' := ?_) #[true, true, true, true, true, false, false, false, false, false] rfl rfl (by kernel_rfl) (fun _ _ _ h => h) (Or.inl ⟨by rfl, ?_⟩) hHeld ?_ ?_
          rotate_left
          ·rintro w' ⟨s0, s1, s2, s3⟩
           go_simp
           with_reducible rfl
          rotate_left
          ·simp only [Act.put, List.setIfInBounds_toArray, List.set_cons_zero, List.set_cons_succ, i64_w, i32_w]
           rfl
          refine one_ (i := 5) (N := (some 107)) #[true, true, true, true, true, true, false, false, false, false] rfl rfl (by kernel_rfl) (by decide) (fun K hK => ?_)
          refine goes_ Tryd.func35 (by kernel_rfl) rfl #[.slice A2 c.length c2, .int .i64 (t : Int)] (by rfl) rfl rfl (by (try simp only [List.map_toArray, List.map_cons, List.map_nil]); first | done | rfl) ?_
          refine (at_n A2 c2 c t _ (Kd.C_below H.out.r2 HT9.out.bl) H.out.n2).mono ?_
          rintro e w' ⟨rfl, ⟨nd1, rfl⟩⟩
          refine ⟨_, rfl, ?_⟩
          refine hK.out _ _ (tameS (HT9.out.below (pw_below_drewN (Below.refl _ _) _))) (fun hHeld => ?_)
          clear hK K
          refine norm_ (a' := ?_) ?_ ?_
          rotate_left
          ·show Act.put _ (some 107) _ = _
           simp only [Act.put, List.setIfInBounds_toArray, List.set_cons_zero, List.set_cons_succ, i64_w, i32_w]
           rfl
          refine one_ (i := 6) (N := (some 108)) #[true, true, true, true, true, true, true, false, false, false] rfl rfl (by kernel_rfl) (by decide) (fun K hK => ?_)
          refine goes_ Tryd.func34 (by kernel_rfl) rfl #[.int .i64 (atN c t), .int .i64 100] (by rfl) rfl rfl (by (try simp only [List.map_toArray, List.map_cons, List.map_nil]); first | done | rfl) ?_
          refine (mod_n _ 100 (by omega) (by omega) _).mono ?_
          rintro e w' ⟨rfl, ⟨nd2, rfl⟩⟩
          refine ⟨_, rfl, ?_⟩
          refine hK.out _ _ (tameS (HT9.out.below (pw_below_drewN (pw_below_drewN (Below.refl _ _) nd1) nd2))) (fun hHeld => ?_)
          clear hK K
          refine norm_ (a' := ?_) ?_ ?_
          rotate_left
          ·show Act.put _ (some 108) _ = _
           simp only [Act.put, List.setIfInBounds_toArray, List.set_cons_zero, List.set_cons_succ, i64_w, i32_w]
           rfl
          refine pure_ (i := 7) (N := (some 109)) (v := ?_) (a' := ?_) #[true, true, true, true, true, true, true, true, false, false] rfl rfl (by kernel_rfl) (fun _ _ _ h => h) (Or.inl ⟨by rfl, ?_⟩) ?_ ?_
          rotate_left
          ·intro w'
           go_simp
           with_reducible rfl
          rotate_left
          ·simp only [Act.put, List.setIfInBounds_toArray, List.set_cons_zero, List.set_cons_succ, i64_w, i32_w]
           rfl
          refine one_ (i := 8) (N := (some 110)) #[true, true, true, true, true, true, true, true, true, false] rfl rfl (by kernel_rfl) (by decide) (fun K hK => ?_)
          refine goes_ Tryd.func36 (by kernel_rfl) rfl #[.agg #[.slice AU0 (tameW a).length cu0, .slice AU1 Bt.length cu1, .slice AU2 Ct.length cu2], .slice (some ⟨g, 0, none⟩) n n3, .int .i64 (wrap64 (1 + modN (atN c t) 100))] (by rfl) rfl rfl (by (try simp only [List.map_toArray, List.map_cons, List.map_nil]); first | done | rfl) ?_
          have hel : (tameBit n t).length = n := by unfold tameBit; simp
          have HBD := Aside0.mk (show Below wo.heap.size wo ((wr.drew.drewN nd1).drewN nd2) from pw_below_drewN (pw_below_drewN (below_drew HBI.out) nd1) nd2)
          have hrw := Kd.R_drewN (Kd.R_drewN (Kd.R_drew HRW.out) nd1) nd2
          rw [hel] at hrw
          have HRD := Aside0.mk hrw
          clear hrw
          generalize (wr.drew.drewN nd1).drewN nd2 = w5 at HBD HRD ⊢
          have hwt := tame_with (wrap64 (1 + modN (atN c t) 100)) HTA.out HU0.out HU1.out HU2.out HBD.out (p := tameBit n t) (AR := some ⟨g, 0, none⟩) (cr := n3) (by rw [hel]; exact HRD.out) (by have := HBTL.out; omega) (by have := HCTL.out; omega)
          rw [hel] at hwt
          refine hwt.mono ?_
          clear hwt
          rintro e w6 ⟨v1, v2, rfl, hwp⟩
          have hst := tame_store (HTA.out.below HBD.out) (Kd.R_below HU0.out HBD.out) (Kd.R_below HU1.out HBD.out) (Kd.R_below HU2.out HBD.out) hwp
          have HST := Aside0.mk hst
          have k4 := (hwp.keep _ (blk_lt (HTA.out.below HBD.out).b4) (Kd.R_ne (Kd.R_below HU1.out HBD.out) (HTA.out.below HBD.out).b4 (by decide)) (Kd.R_ne (Kd.R_below HU2.out HBD.out) (HTA.out.below HBD.out).b4 (by decide))).trans (HTA.out.below HBD.out).b4
          have k1 := (hwp.keep _ (blk_lt (HTA.out.below HBD.out).b1) (Kd.R_ne (Kd.R_below HU1.out HBD.out) (HTA.out.below HBD.out).b1 (by decide)) (Kd.R_ne (Kd.R_below HU2.out HBD.out) (HTA.out.below HBD.out).b1 (by decide))).trans (HTA.out.below HBD.out).b1
          have HK4 := Aside0.mk k4
          have HK1 := Aside0.mk k1
          obtain ⟨AV1, cv1, rfl⟩ := Kd.R_slice hwp.r1
          obtain ⟨AV2, cv2, rfl⟩ := Kd.R_slice hwp.r2
          obtain ⟨m1, hm1⟩ : ∃ m1, m1 = (Bt ++ [tameBit n t]).length := ⟨_, rfl⟩
          obtain ⟨m2, hm2⟩ : ∃ m2, m2 = (Ct ++ [wrap64 (1 + modN (atN c t) 100)]).length := ⟨_, rfl⟩
          rw [← hm1, ← hm2] at HST
          rw [← hm1, ← hm2]
          clear hst k4 k1 hwp hm1 hm2
          refine ⟨_, rfl, ?_⟩
          refine hK.out _ _ ⟨(blk_cell HK4.out 0).trans rfl, (blk_cell HK4.out 1).trans rfl, (blk_cell HK4.out 2).trans rfl, (blk_cell HK1.out 2).trans rfl⟩ (fun hHeld => ?_)
          clear hK K
          refine norm_ (a' := ?_) ?_ ?_
          rotate_left
          ·show Act.put _ (some 110) _ = _
           simp only [Act.put, List.setIfInBounds_toArray, List.set_cons_zero, List.set_cons_succ, i64_w, i32_w]
           rfl
          refine last_ (i := 9) (N := none) #[true, true, true, true, true, true, true, true, true, true] rfl rfl (by kernel_rfl) (by decide) (fun K hK => ?_)
          have hs0 : w6.cell? ⟨w.heap.size + 1 + 1, 0, none⟩ = some (.slice AU0 (tameW a).length cu0) := (blk_cell HK4.out 0).trans rfl
          have hs1 : w6.cell? ⟨w.heap.size + 1 + 1, 1, none⟩ = some (.slice AU1 Bt.length cu1) := (blk_cell HK4.out 1).trans rfl
          have hs2 : w6.cell? ⟨w.heap.size + 1 + 1, 2, none⟩ = some (.slice AU2 Ct.length cu2) := (blk_cell HK4.out 2).trans rfl
          have hf0 := blk_frozen HK4.out 0
          have hf1 := blk_frozen HK4.out 1
          have hf2 := blk_frozen HK4.out 2
          refine skip_ (w1 := ?_) (by rfl) rfl ?_ ?_
          rotate_left
          ·go_simp
           rfl
          refine hK.out _ _ ?_
          clear hK K
          clear hs0 hs1 hs2 hf0 hf1 hf2
          refine done_ (by kernel_rfl) ?_
          go_wp2
          go_roundg (k2 - 1)
          case measure => have := HKT.out; omega
          case rel =>
           refine ⟨t + 1, _, _, _, by go_num, ⟨by have := HKT.out; omega⟩, ⟨HST.out.1⟩, ⟨HST.out.2.1⟩, ⟨?_⟩, ⟨?_⟩⟩
           ·rw [HBT.out]; exact HST.out.2.2.1
           ·rw [HCT.out]; exact HST.out.2.2.2
       ·obtain rfl : t = 4 := by have := HKT.out; omega
        have e0 : Bt = tameB a b := by rw [hBt, HB1.out, HN.out]; rfl
        have e1 : Ct = tameC b c := by rw [hCt, HC1.out]; rfl
        rw [e0] at HU1 HTA
        rw [e1] at HU0 HU1 HU2 HTA
        clear hBt hCt e0 e1 Bt Ct
        have hs0 : wr.cell? ⟨w.heap.size + 1 + 1, 0, none⟩ = some (.slice AU0 (tameW a).length cu0) := (blk_cell HTA.out.b4 0).trans rfl
        have hs1 : wr.cell? ⟨w.heap.size + 1 + 1, 1, none⟩ = some (.slice AU1 (tameB a b).length cu1) := (blk_cell HTA.out.b4 1).trans rfl
        have hs2 : wr.cell? ⟨w.heap.size + 1 + 1, 2, none⟩ = some (.slice AU2 (tameC b c).length cu2) := (blk_cell HTA.out.b4 2).trans rfl
        have hq0 : wr.cell? ⟨w.heap.size + 1, 0, none⟩ = some (.slice none 0 0) := (blk_cell HTA.out.b2 0).trans rfl
        have hq1 : wr.cell? ⟨w.heap.size + 1, 1, none⟩ = some (.slice none 0 0) := (blk_cell HTA.out.b2 1).trans rfl
        have hq2 : wr.cell? ⟨w.heap.size + 1, 2, none⟩ = some (.slice none 0 0) := (blk_cell HTA.out.b2 2).trans rfl
        have hf0 := blk_frozen HTA.out.b2 0
        have hf1 := blk_frozen HTA.out.b2 1
        have hf2 := blk_frozen HTA.out.b2 2
        go_wp2
        have g0 := blk_set HTA.out.b2 0 (.slice AU0 (tameW a).length cu0)
        have g1 := blk_set g0 1 (.slice AU1 (tameB a b).length cu1)
        refine bodyPost_ret (results_cell_row rfl _ _ (w.heap.size + 1) 25 #[.slice AU0 (tameW a).length cu0, .slice AU1 (tameB a b).length cu1, .slice AU2 (tameC b c).length cu2] (0, 0) _ rfl ((blk_set g1 2 (.slice AU2 (tameC b c).length cu2)).trans rfl) Tryd.underlying25 rfl (by kernel_rfl)) rfl ?_
        refine ⟨_, _, _, rfl, ?_, ?_, ?_, ?_⟩
        ·exact Kd.R_set (Kd.R_set (Kd.R_set HU0.out HTA.out.b2 (by decide) 0 _) g0 (by decide) 1 _) g1 (by decide) 2 _
        ·exact Kd.R_mono (Kd.R_set (Kd.R_set (Kd.R_set HU1.out HTA.out.b2 (by decide) 0 _) g0 (by decide) 1 _) g1 (by decide) 2 _) (fun _ h => h.2)
        ·exact Kd.R_set (Kd.R_set (Kd.R_set HU2.out HTA.out.b2 (by decide) 0 _) g0 (by decide) 1 _) g1 (by decide) 2 _
        ·have hle : w.heap.size ≤ w.heap.size + 1 := by omega
         exact ((HTA.out.bl.setCell hle _).setCell hle _).setCell hle _
end
end Go.Proofs.YtekmiepdodaidaaDoor.X
end

section
/- Greedy's choice (closure 51), by hand. -/
set_option linter.unusedVariables false
set_option linter.unusedSimpArgs false
namespace Go.Proofs.YtekmiepdodaidaaDoor.X
open Go.RowKit Go.Proofs.YtekmiepdodaidaaDoorW.PrintWords Go.Proofs.YtekmiepdodaidaaDoorW.PrintLast Go.Proofs.YtekmiepdodaidaaDoorW.PrintMore

section
variable {A0 : Option Addr} {c0 : Nat} {a : List Int} {A1 : Option Addr} {c1 : Nat} {b : List (List Int)} {A2 : Option Addr} {c2 : Nat} {c : List Int} {A3 : Option Addr} {c3 : Nat} {al : Int} {gt : Nat} {W : World}
/-- The trial, as it lies. -/
structure TrialAt (W : World) (gt : Nat) (A0 : Option Addr) (c0 : Nat) (a : List Int) (A1 : Option Addr) (c1 : Nat) (b : List (List Int)) (A2 : Option Addr) (c2 : Nat) (c : List Int) (A3 : Option Addr) (c3 : Nat) (al : Int) : Prop where
 bt : W.heap[gt]? = some (.cells #[.slice A0 a.length c0, .slice A1 b.length c1, .slice A2 c.length c2, .slice A3 (onesOf b).length c3, .int .u64 al] 77 (0, 0))
 at_ : CaseAt W A0 c0 a A1 c1 b A2 c2 c
 r3 : Kd.C (Kd.int .u64) W A3 (onesOf b).length (onesOf b)
 n3 : (onesOf b).length ≤ c3
theorem TrialAt.below (h : TrialAt W gt A0 c0 a A1 c1 b A2 c2 c A3 c3 al) {w' : World} (hb : Below W.heap.size W w') : TrialAt w' gt A0 c0 a A1 c1 b A2 c2 c A3 c3 al := ⟨blk_below h.bt hb, h.at_.below hb, Kd.C_below h.r3 hb, h.n3⟩
end
end Go.Proofs.YtekmiepdodaidaaDoor.X
end

section
namespace Go.Proofs.YtekmiepdodaidaaDoor.X
open Go.RowKit Go.Proofs.YtekmiepdodaidaaDoorW.PrintWords Go.Proofs.YtekmiepdodaidaaDoorW.PrintLast Go.Proofs.YtekmiepdodaidaaDoorW.PrintMore
attribute [local go_sem] max2_int min2_int max_two min_two max_three min_three max_four min_four   -- for this text's walks alone
set_option linter.unusedVariables false
set_option linter.unusedSimpArgs false

theorem eqA57 (d : Nat) (w : World) (x0 y0 : Int) (x1 y1 : Int) (x2 y2 : Int) (x3 y3 : Int) :
  (Op.equalIn (d + 2) 57 (.agg #[.int .i64 x0, .int .i64 x1, .int .i64 x2, .int .i64 x3]) (.agg #[.int .i64 y0, .int .i64 y1, .int .i64 y2, .int .i64 y3])).run Tryd.prog w = .ok (x0 == y0 && (x1 == y1 && (x2 == y2 && (x3 == y3)))) w := by
 refine eqA_of Tryd.underlying57 (by kernel_rfl) ?_
 refine eqf_cons (by rfl) (by go_simp; rfl) (by go_simp; rfl) (by go_simp) ?_
 refine eqf_cons (by rfl) (by go_simp; rfl) (by go_simp; rfl) (by go_simp) ?_
 refine eqf_cons (by rfl) (by go_simp; rfl) (by go_simp; rfl) (by go_simp) ?_
 exact eqf_last (by rfl) (by go_simp; rfl) (by go_simp; rfl) (by go_simp)
end Go.Proofs.YtekmiepdodaidaaDoor.X
end

section
/- (trial).isPlan, by hand, first part: its closure, and what its map says. -/
set_option linter.unusedVariables false
set_option linter.unusedSimpArgs false
namespace Go.Proofs.YtekmiepdodaidaaDoor.X
open Go.RowKit Go.Proofs.YtekmiepdodaidaaDoorW.PrintWords Go.Proofs.YtekmiepdodaidaaDoorW.PrintLast Go.Proofs.YtekmiepdodaidaaDoorW.PrintMore
open Go.Maps (Keyed)
open Go.MapKept

section
variable {W : World} {bp bu B n : Nat} {g : KMap} {AP : Option Addr} {cp len : Nat}
end
structure UsedAt (plan : List S57) (i : Nat) (g : KMap) : Prop where
 at_ : ∀ j : Nat, j < plan.length → (g (ki (j : Int)) = some (.bool true) ∧ cntK (plan.take i) j = 1) ∨ (g (ki (j : Int)) = none ∧ cntK (plan.take i) j = 0)
 key : ∀ kl, (g kl).isSome = true → ∃ j : Nat, 1 ≤ j ∧ j < plan.length ∧ kl = ki (j : Int)
end Go.Proofs.YtekmiepdodaidaaDoor.X
end

section
/- (trial).isPlan, by hand: are the nodes a plan? -/
set_option linter.unusedVariables false
set_option linter.unusedSimpArgs false
namespace Go.Proofs.YtekmiepdodaidaaDoor.X
open Go.RowKit Go.Proofs.YtekmiepdodaidaaDoorW.PrintWords Go.Proofs.YtekmiepdodaidaaDoorW.PrintLast Go.Proofs.YtekmiepdodaidaaDoorW.PrintMore
attribute [local go_sem high] eqA57
structure PlanAt (TC PC : Array Value) (n nt : Nat) (plan : List S57) (gT gP gU B : Nat) (w w' : World) (i : Nat) : Prop where
 bT : w'.heap[gT]? = some (.cells TC 77 (0, 0))
 bP : w'.heap[gP]? = some (.cells PC 27 (0, 0))
 bU : w'.heap[gU]? = some (.cells #[.map (some B)] 102 (0, 0))
 bel : Below w.heap.size w w'
 used : ∃ g m, MapIs Tryd.prog 3 w' B m g ∧ m ≤ 2 * i ∧ UsedAt plan i g
 ok : ∀ i' : Nat, i' < i → nodeB n nt plan.length i' (rd_T57 plan i') = true
section
variable {TC PC : Array Value} {n nt : Nat} {plan : List S57} {gT gP gU B : Nat} {w wr : World} {i : Nat}
end
section
variable {A0 : Option Addr} {c0 : Nat} {a : List Int} {A1 : Option Addr} {c1 : Nat} {b : List (List Int)} {A2 : Option Addr} {c2 : Nat} {c : List Int} {A3 : Option Addr} {c3 : Nat} {ones : List Int} {al : Int} {A : Option Addr} {cp : Nat} {plan : List S57} {w : World}
end
end Go.Proofs.YtekmiepdodaidaaDoor.X
end

section
/- Layer 7, plain: own copies, and the reference's Case. -/
set_option linter.unusedVariables false
namespace Go.Proofs.YtekmiepdodaidaaDoor.X
open Go.RowKit Go.Proofs.YtekmiepdodaidaaDoorW.PrintWords Go.Proofs.YtekmiepdodaidaaDoorW.PrintLast Go.Proofs.YtekmiepdodaidaaDoorW.PrintMore

def cut14 (l : List Int) : List Int := l.take 14
def cutB (b : List (List Int)) : List (List Int) := (b.take 14).map cut14
theorem list_f (l : List Int) : tickinglaw07_list.f l = some (cut14 l) := by
 have hm : mn (l.length : Int) 14 = ((min l.length 14 : Nat) : Int) := by unfold mn; split <;> omega
 have e : l.take (min l.length 14) = l.take 14 := by
  by_cases h : l.length ≤ 14
  ·rw [List.take_of_length_le (show l.length ≤ min l.length 14 by omega), List.take_of_length_le h]
  ·rw [show min l.length 14 = 14 by omega]
 unfold tickinglaw07_list.f cut14
 rw [hm, if_pos (by omega), if_pos (by omega), Int.toNat_natCast, e, if_pos (by rw [List.length_take]; simp; omega), List.nil_append]
theorem own_l0 (a : List Int) (b : List (List Int)) (c : List Int) (x y : List Int) (m : Nat) : ∀ (i : Nat) (acc : List (List Int)), i + m = min b.length 14 → acc.length = i →
  Ev (fun k => tickinglaw07_own.l0 k (i : Int) a b c x acc y) (x, acc ++ ((b.take 14).drop i).map cut14, y) := by
 induction m with
 | zero =>
  intro i acc hi ha
  refine Ev.step (f := fun _ => some _) (fun k => ?_) (Ev.now _)
  simp only [tickinglaw07_own.l0]
  have hd : (b.take 14).drop i = [] := List.drop_eq_nil_of_le (by rw [List.length_take]; omega)
  rw [hd]
  by_cases h : (i : Int) < (b.length : Int)
  ·rw [if_pos h, if_neg (by omega)]; simp
  ·rw [if_neg h]; simp
 | succ m ih =>
  intro i acc hi ha
  have hib : i < b.length := by omega
  have hlt : i < (b.take 14).length := by rw [List.length_take]; omega
  have hd : (b.take 14).drop i = (b.take 14)[i] :: (b.take 14).drop (i + 1) := List.drop_eq_getElem_cons hlt
  have hg : (b.take 14)[i] = b[i] := List.getElem_take
  have h2 := ih (i + 1) (acc ++ [cut14 b[i]]) (by omega) (by simp [ha])
  have e : (acc ++ [cut14 b[i]]) ++ ((b.take 14).drop (i + 1)).map cut14 = acc ++ ((b.take 14).drop i).map cut14 := by rw [hd, hg, List.map_cons, List.append_assoc]; rfl
  rw [e] at h2
  refine Ev.step (fun k => ?_) h2
  show tickinglaw07_own.l0 (k + 1) (i : Int) a b c x acc y = _
  simp only [tickinglaw07_own.l0]
  rw [if_pos (by omega), if_pos (by omega), if_pos (by omega), rd_L1_at b i hib, list_f]
  simp only [Option.bind_some]
  rw [if_pos (by omega), w1 i (by omega)]
theorem own_ev (a : List Int) (b : List (List Int)) (c : List Int) : Ev (fun k => tickinglaw07_own.f k a b c) (cut14 a, cutB b, cut14 c) := by
 unfold tickinglaw07_own.f
 rw [list_f, list_f]
 simp only [Option.bind_some]
 have := own_l0 a b c (cut14 a) (cut14 c) (min b.length 14) 0 [] (by omega) rfl
 simpa [cutB] using this
section
variable (a : List Int) (b : List (List Int)) (c : List Int)
end
end Go.Proofs.YtekmiepdodaidaaDoor.X
end

section
/- Layer 7, plain: trees of tests: none is better than what Best and Worst find. -/
set_option linter.unusedVariables false
namespace Go.Proofs.YtekmiepdodaidaaDoor.X
open Go.RowKit Go.Proofs.YtekmiepdodaidaaDoorW.PrintWords Go.Proofs.YtekmiepdodaidaaDoorW.PrintLast Go.Proofs.YtekmiepdodaidaaDoorW.PrintMore

inductive DT where
 | leaf (f : Nat) : DT
 | node (t : Nat) (z o : DT) : DT
/-- Where fault f comes to. -/
def DT.ends (ones : List Int) : DT → Nat → Nat
 | .leaf g, _ => g
 | .node t z o, f => if memB (rd ones (t : Int)) f = true then o.ends ones f else z.ends ones f
/-- What its way costs. -/
def DT.cost (ones c : List Int) : DT → Nat → Int
 | .leaf _, _ => 0
 | .node t z o, f => rd c (t : Int) + (if memB (rd ones (t : Int)) f = true then o.cost ones c f else z.cost ones c f)
theorem DT.ends_node (ones : List Int) (t : Nat) (z o : DT) (f : Nat) : (DT.node t z o).ends ones f = if memB (rd ones (t : Int)) f = true then o.ends ones f else z.ends ones f := rfl
theorem DT.cost_node (ones c : List Int) (t : Nat) (z o : DT) (f : Nat) : (DT.node t z o).cost ones c f = rd c (t : Int) + (if memB (rd ones (t : Int)) f = true then o.cost ones c f else z.cost ones c f) := rfl
theorem low_ar {k x y W M : Int} (h : M ≤ k + mx x y) (hx : x ≤ W - k) (hy : y ≤ W - k) : M ≤ W := by unfold mx at h; split at h <;> omega
theorem low_as {k C W : Int} (h : k + C ≤ W) : C ≤ W - k := by omega
theorem low_at {k C W : Int} (h : k + C ≤ W) (hk : 1 ≤ k) : C ≤ W := by omega
theorem low_au {k C W : Int} (h : C ≤ W - k) (h0 : 0 ≤ C) : 0 ≤ W - k := by omega
/-- Its tests are tests. -/
def DT.ok (nt : Nat) : DT → Prop
 | .leaf _ => True
 | .node t z o => t < nt ∧ z.ok nt ∧ o.ok nt
theorem DT.cost_nonneg {ones c : List Int} {nt : Nat} (hc : ∀ t : Nat, t < nt → 1 ≤ rd c (t : Int)) : ∀ (T : DT) (f : Nat), T.ok nt → 0 ≤ T.cost ones c f
 | .leaf _, _, _ => Int.le_refl _
 | .node t z o, f, h => by
  obtain ⟨h1, h2, h3⟩ := h
  have i1 := DT.cost_nonneg (ones := ones) hc z f h2
  have i2 := DT.cost_nonneg (ones := ones) hc o f h3
  have := hc t h1
  unfold DT.cost
  split <;> omega
theorem pickB_le {c : Int → Int → Int} {s : Int} : ∀ (l : List Int) (k : Nat) (b : Int × Int), (b.1 = -1 ∨ 0 ≤ b.1) → (0 ≤ b.1 → (pickB c s k l b).2 ≤ b.2) ∧ (∀ j x, l[j]? = some x → splitB s x = true → (pickB c s k l b).2 ≤ c ((k + j : Nat) : Int) x)
 | [], k, b, hb => ⟨fun _ => Int.le_refl _, fun j x h => by simp at h⟩
 | y :: ys, k, b, hb => by
  have ek : ((k : Int) + 1) = ((k + 1 : Nat) : Int) := by omega
  rw [pickB, ek]
  by_cases hy : splitB s y = true
  ·rw [if_pos hy]
   by_cases ht : b.1 < 0 ∨ c (k : Int) y < b.2
   ·rw [if_pos ht]
    obtain ⟨i1, i2⟩ := pickB_le (c := c) (s := s) ys (k + 1) ((k : Int), c (k : Int) y) (.inr (by simp))
    have i1' := i1 (by simp)
    refine ⟨fun h => by rcases ht with h' | h'; omega; exact Int.le_trans i1' (by simp; omega), fun j x hj hx => ?_⟩
    cases j with
    | zero => simp at hj; subst hj; exact i1'
    | succ j => have := i2 j x (by simpa using hj) hx; rwa [show k + 1 + j = k + (j + 1) by omega] at this
   ·rw [if_neg ht]
    obtain ⟨i1, i2⟩ := pickB_le (c := c) (s := s) ys (k + 1) b hb
    refine ⟨i1, fun j x hj hx => ?_⟩
    cases j with
    | zero =>
     simp at hj; subst hj
     have := i1 (by rcases hb with h | h; exact absurd (.inl (by omega)) ht; exact h)
     have h2 : ¬ c (k : Int) y < b.2 := fun h => ht (.inr h)
     exact Int.le_trans this (by simp; omega)
    | succ j => have := i2 j x (by simpa using hj) hx; rwa [show k + 1 + j = k + (j + 1) by omega] at this
  ·rw [if_neg hy]
   obtain ⟨i1, i2⟩ := pickB_le (c := c) (s := s) ys (k + 1) b hb
   refine ⟨i1, fun j x hj hx => ?_⟩
   cases j with
   | zero => simp at hj; subst hj; exact absurd hx hy
   | succ j => have := i2 j x (by simpa using hj) hx; rwa [show k + 1 + j = k + (j + 1) by omega] at this
section
variable {a : List Int} {b : List (List Int)} {c : List Int}
/-- No test is better than the best. -/
theorem cN_le (D : Differ a b c) (mf : Int → Int → Int → Int → Int) (s : Int) (hs : SetN a.length s) (hp : pcount s ≠ 1) (t : Nat) (ht : t < b.length) (hx : splitB s (rd (onesOf b) (t : Int)) = true) :
  cN mf b s ≤ mf (t : Int) s (cN mf b (bSub s (rd (onesOf b) (t : Int)))) (cN mf b (bAnd s (rd (onesOf b) (t : Int)))) := by
 have e0 : cN mf b s = (chs mf (onesOf b) s).2 := by unfold cN cstB; rw [if_neg hp]
 have hl : t < (onesOf b).length := by rw [onesOf_len]; exact ht
 have hr : rd (onesOf b) (t : Int) = (onesOf b)[t] := by simp [rd, List.getD_eq_getElem?_getD, List.getElem?_eq_getElem hl]
 rw [hr] at hx ⊢
 have := (pickB_le (c := fun k x => mf k s (cstB (chs mf (onesOf b)) (bSub s x)) (cstB (chs mf (onesOf b)) (bAnd s x))) (s := s) (onesOf b) 0 (-1, 0) (.inl rfl)).2 t _ (List.getElem?_eq_getElem hl) hx
 rw [Nat.zero_add, show ((0 : Nat) : Int) = 0 from rfl] at this
 rw [e0, chs_eq mf (onesOf b) D.set s hs.1]
 exact this
theorem set_parts_of (D : Differ a b c) {s : Int} (hs : SetN a.length s) {t : Nat} (ht : t < b.length) (hx : splitB s (rd (onesOf b) (t : Int)) = true) : SetN a.length (bSub s (rd (onesOf b) (t : Int))) ∧ SetN a.length (bAnd s (rd (onesOf b) (t : Int))) := by
 have hl : t < (onesOf b).length := by rw [onesOf_len]; exact ht
 have hm : rd (onesOf b) (t : Int) ∈ onesOf b := by simp only [rd, Int.toNat_natCast, List.getD_eq_getElem?_getD, List.getElem?_eq_getElem hl, Option.getD_some]; exact List.getElem_mem hl
 obtain ⟨⟨p1, p2⟩, q1, q2⟩ := split_parts hs.1 (D.set _ hm) hx
 have hsb := hs.1
 have hlt := hs.2.2
 unfold SetB at hsb
 exact ⟨⟨by unfold SetB; omega, q1, by omega⟩, ⟨by unfold SetB; omega, p1, by omega⟩⟩
theorem ones_set (D : Differ a b c) {t : Nat} (ht : t < b.length) : SetB (rd (onesOf b) (t : Int)) := by
 have hl : t < (onesOf b).length := by rw [onesOf_len]; exact ht
 refine D.set _ ?_
 simp only [rd, Int.toNat_natCast, List.getD_eq_getElem?_getD, List.getElem?_eq_getElem hl, Option.getD_some]; exact List.getElem_mem hl
/-- A test that does not divide a set: all go one way. -/
theorem one_way (D : Differ a b c) {s : Int} (hs : SetN a.length s) {t : Nat} (ht : t < b.length) (hx : ¬ splitB s (rd (onesOf b) (t : Int)) = true) : (∀ f, f < a.length → memB s f = true → memB (rd (onesOf b) (t : Int)) f = true) ∨ (∀ f, f < a.length → memB s f = true → memB (rd (onesOf b) (t : Int)) f = false) := by
 have hxs := ones_set D ht
 have hadd := bSub_add hs.1 hxs
 have ha := D.is.a10
 unfold splitB at hx
 simp only [Bool.and_eq_true, Bool.not_eq_true', beq_eq_false_iff_ne, ne_eq, not_and, Decidable.not_not] at hx
 by_cases h0 : bAnd s (rd (onesOf b) (t : Int)) = 0
 ·right
  intro f hf hm
  have := mem_and hs.1 hxs f
  rw [h0, hm, Bool.true_and] at this
  rw [← this]; unfold memB; simp
 ·left
  have h1 := hx h0
  intro f hf hm
  have := mem_sub hs.1 hxs f (by omega)
  rw [h1, hm, Bool.true_and] at this
  have e : memB 0 f = false := by unfold memB; simp
  rw [e] at this
  simpa using this.symm
def meanT (a c ones : List Int) (s : Int) (T : DT) : Int := sumR (fun f => if memB s f = true then rd a (f : Int) * T.cost ones c f else 0) a.length
theorem sumR_nonneg {g : Nat → Int} : ∀ (n : Nat), (∀ f, f < n → 0 ≤ g f) → 0 ≤ sumR g n
 | 0, _ => Int.le_refl _
 | n + 1, h => by
  have := sumR_nonneg n (fun f hf => h f (by omega))
  have := h n (Nat.lt_succ_self _)
  simp only [sumR]; omega
theorem sumR_le {g h : Nat → Int} : ∀ (n : Nat), (∀ f, f < n → g f ≤ h f) → sumR g n ≤ sumR h n
 | 0, _ => Int.le_refl _
 | n + 1, hh => by
  have := sumR_le n (fun f hf => hh f (by omega))
  have := hh n (Nat.lt_succ_self _)
  simp only [sumR]; omega
theorem w_in (D : Differ a b c) (f : Nat) (hf : f < a.length) : 1 ≤ rd a (f : Int) ∧ rd a (f : Int) ≤ 1000 := by
 rw [rd_at a f hf]; exact D.is.wa _ (List.getElem_mem hf)
theorem one_set (D : Differ a b c) {s : Int} (hs : SetN a.length s) {g : Nat} (h : ∀ f, f < a.length → memB s f = true → g = f) : pcount s = 1 := by
 have hsb := hs.1
 have ha := D.is.a10
 unfold SetB at hsb
 refine Classical.byContradiction fun hp => ?_
 rw [pcount_set hs.1] at hp
 have hc := cnt_pos s.toNat (by omega) (by have := hs.2.1; omega)
 obtain ⟨x, hx, y, hy, hxy, tx, ty⟩ := two_bits s.toNat (by omega) (by have := hs.2.1; omega) (by omega)
 have lt : ∀ q, s.toNat.testBit q = true → q < a.length := by
  intro q hq
  rcases Nat.lt_or_ge q a.length with h | h
  ·exact h
  ·have h3 : s.toNat < 2 ^ a.length := by have := hs.2.2; omega
   rw [Nat.testBit_lt_two_pow (Nat.lt_of_lt_of_le h3 (Nat.pow_le_pow_right (by omega) h))] at hq
   cases hq
 have h1 := h x (lt x tx) tx
 have h2 := h y (lt y ty) ty
 omega
/-- No tree has a smaller mean. -/
theorem low_mean (D : Differ a b c) : ∀ (T : DT) (s : Int), SetN a.length s → T.ok b.length → (∀ f, f < a.length → memB s f = true → T.ends (onesOf b) f = f) → cN (mfMean a b c) b s ≤ meanT a c (onesOf b) s T := by
 have hcost : ∀ t : Nat, t < b.length → 1 ≤ rd c (t : Int) := fun t ht => (cost_at D.is t ht).1
 have nn : ∀ (T : DT) (s : Int), T.ok b.length → 0 ≤ meanT a c (onesOf b) s T := fun T s hT => sumR_nonneg _ (fun f hf => by
  split
  ·exact Int.mul_nonneg (by have := w_in D f hf; omega) (DT.cost_nonneg hcost T f hT)
  ·exact Int.le_refl _)
 intro T
 induction T with
 | leaf g =>
  intro s hs hT h
  have hp := one_set D hs (g := g) h
  have e : cN (mfMean a b c) b s = 0 := by unfold cN cstB; rw [if_pos hp]
  rw [e]; exact nn _ _ hT
 | node t z o iz io =>
  intro s hs hT h
  by_cases hp : pcount s = 1
  ·have e : cN (mfMean a b c) b s = 0 := by unfold cN cstB; rw [if_pos hp]
   rw [e]; exact nn _ _ hT
  ·obtain ⟨ht, hz, ho⟩ := hT
   by_cases hx : splitB s (rd (onesOf b) (t : Int)) = true
   ·obtain ⟨p1, p2⟩ := set_parts_of D hs ht hx
    have hxs := ones_set D ht
    have ha := D.is.a10
    have i1 := iz _ p1 hz (fun f hf hm => by
     rw [mem_sub hs.1 hxs f (by omega), Bool.and_eq_true] at hm
     have := h f hf hm.1
     rw [DT.ends_node] at this
     rwa [if_neg (by intro e; rw [e] at hm; exact absurd hm.2 (by decide))] at this)
    have i2 := io _ p2 ho (fun f hf hm => by
     rw [mem_and hs.1 hxs f, Bool.and_eq_true] at hm
     have := h f hf hm.1
     rw [DT.ends_node] at this
     rwa [if_pos hm.2] at this)
    have hle := cN_le D (mfMean a b c) s hs hp t ht hx
    have B1 : 0 ≤ cN (mfMean a b c) b _ ∧ cN (mfMean a b c) b _ ≤ 1024000000 := cst_box D.set (mean_ok D.is) _ p1.1 p1.2.1
    have B2 : 0 ≤ cN (mfMean a b c) b _ ∧ cN (mfMean a b c) b _ ≤ 1024000000 := cst_box D.set (mean_ok D.is) _ p2.1 p2.2.1
    have hsb := hs.1
    unfold SetB at hsb
    obtain ⟨v, hv⟩ : ∃ v : Nat, s = v := ⟨s.toNat, (Int.toNat_of_nonneg hsb.1).symm⟩
    have hm := mfMean_eq D.is t ht v (by omega) _ _ ⟨B1.1, Int.le_trans B1.2 (by decide)⟩ ⟨B2.1, Int.le_trans B2.2 (by decide)⟩
    have hsum : meanT a c (onesOf b) s (.node t z o) = rd c (t : Int) * wOf a s.toNat + meanT a c (onesOf b) (bSub s (rd (onesOf b) (t : Int))) z + meanT a c (onesOf b) (bAnd s (rd (onesOf b) (t : Int))) o := by
     unfold meanT
     rw [wOf_sum, ← sumR_mul, ← sumR_add, ← sumR_add]
     refine sumR_congr _ (fun f hf => ?_)
     have m1 := mem_and hs.1 hxs f
     have m2 := mem_sub hs.1 hxs f (by omega)
     show _ = rd c (t : Int) * (if memB s f = true then rd a (f : Int) else 0) + _ + _
     cases hmm : memB s f
     ·rw [hmm, Bool.false_and] at m1 m2
      rw [m1, m2]; simp
     ·rw [hmm, Bool.true_and] at m1 m2
      rw [m1, m2]
      rw [DT.cost_node]
      cases hq : memB (rd (onesOf b) (t : Int)) f
      ·simp only [if_true, Bool.not_false]
       rw [if_neg (by decide), if_neg (by decide), Int.mul_add, Int.add_zero, Int.mul_comm (rd a (f : Int)) (rd c (t : Int))]
      ·simp only [if_true, Bool.not_true]
       rw [if_neg (by decide), Int.mul_add, Int.add_zero, Int.mul_comm (rd a (f : Int)) (rd c (t : Int))]
    rw [hsum]
    rw [hv] at hle ⊢
    rw [hv] at hm i1 i2
    rw [Int.toNat_natCast]
    rw [hm] at hle
    exact Int.le_trans hle (Int.add_le_add (Int.add_le_add_left i1 _) i2)
   ·-- all go one way
    have key : ∀ (Q : DT), Q.ok b.length → (∀ f, f < a.length → memB s f = true → (DT.node t z o).cost (onesOf b) c f = rd c (t : Int) + Q.cost (onesOf b) c f) → meanT a c (onesOf b) s Q ≤ meanT a c (onesOf b) s (.node t z o) := by
     intro Q hQ hq
     refine sumR_le _ (fun f hf => ?_)
     by_cases hm : memB s f = true
     ·rw [if_pos hm, if_pos hm, hq f hf hm]
      exact Int.mul_le_mul_of_nonneg_left (by have := hcost t ht; omega) (by have := w_in D f hf; omega)
     ·rw [if_neg hm, if_neg hm]; exact Int.le_refl _
    rcases one_way D hs ht hx with hall | hall
    ·have i2 := io s hs ho (fun f hf hm => by
      have := h f hf hm
      rw [DT.ends_node] at this
      rwa [if_pos (hall f hf hm)] at this)
     exact Int.le_trans i2 (key o ho (fun f hf hm => by show rd c (t : Int) + (if memB (rd (onesOf b) (t : Int)) f = true then o.cost (onesOf b) c f else z.cost (onesOf b) c f) = _; rw [if_pos (hall f hf hm)]))
    ·have i1 := iz s hs hz (fun f hf hm => by
      have := h f hf hm
      rw [DT.ends_node] at this
      rwa [if_neg (by rw [hall f hf hm]; decide)] at this)
     exact Int.le_trans i1 (key z hz (fun f hf hm => by show rd c (t : Int) + (if memB (rd (onesOf b) (t : Int)) f = true then o.cost (onesOf b) c f else z.cost (onesOf b) c f) = _; rw [if_neg (by rw [hall f hf hm]; decide)]))
/-- No tree has a smaller worst. -/
theorem low_worst (D : Differ a b c) : ∀ (T : DT) (s : Int) (W : Int), SetN a.length s → T.ok b.length → 0 ≤ W → (∀ f, f < a.length → memB s f = true → T.ends (onesOf b) f = f ∧ T.cost (onesOf b) c f ≤ W) → cN (mfWorst a b c) b s ≤ W := by
 have hcost : ∀ t : Nat, t < b.length → 1 ≤ rd c (t : Int) := fun t ht => (cost_at D.is t ht).1
 intro T
 induction T with
 | leaf g =>
  intro s W hs hT hW h
  have hp := one_set D hs (g := g) (fun f hf hm => (h f hf hm).1)
  have e : cN (mfWorst a b c) b s = 0 := by unfold cN cstB; rw [if_pos hp]
  rw [e]; exact hW
 | node t z o iz io =>
  intro s W hs hT hW h
  by_cases hp : pcount s = 1
  ·have e : cN (mfWorst a b c) b s = 0 := by unfold cN cstB; rw [if_pos hp]
   rw [e]; exact hW
  ·obtain ⟨ht, hz, ho⟩ := hT
   by_cases hx : splitB s (rd (onesOf b) (t : Int)) = true
   ·obtain ⟨p1, p2⟩ := set_parts_of D hs ht hx
    have hxs := ones_set D ht
    have ha := D.is.a10
    have hsub : ∀ f, f < a.length → memB (bSub s (rd (onesOf b) (t : Int))) f = true → z.ends (onesOf b) f = f ∧ z.cost (onesOf b) c f ≤ W - rd c (t : Int) := by
     intro f hf hm
     rw [mem_sub hs.1 hxs f (by omega), Bool.and_eq_true] at hm
     have h1 := h f hf hm.1
     have hn : ¬ memB (rd (onesOf b) (t : Int)) f = true := by intro e; rw [e] at hm; exact absurd hm.2 (by decide)
     rw [DT.ends_node, DT.cost_node] at h1
     rw [if_neg hn, if_neg hn] at h1
     exact ⟨h1.1, low_as h1.2⟩
    have hand : ∀ f, f < a.length → memB (bAnd s (rd (onesOf b) (t : Int))) f = true → o.ends (onesOf b) f = f ∧ o.cost (onesOf b) c f ≤ W - rd c (t : Int) := by
     intro f hf hm
     rw [mem_and hs.1 hxs f, Bool.and_eq_true] at hm
     have h1 := h f hf hm.1
     rw [DT.ends_node, DT.cost_node] at h1
     rw [if_pos hm.2, if_pos hm.2] at h1
     exact ⟨h1.1, low_as h1.2⟩
    have hW2 : 0 ≤ W - rd c (t : Int) := by
     obtain ⟨f, hf, hbit⟩ := bit_lt p1.1 p1.2.1 p1.2.2
     exact low_au (hsub f hf hbit).2 (DT.cost_nonneg (ones := onesOf b) hcost z f hz)
    have i1 := iz _ _ p1 hz hW2 hsub
    have i2 := io _ _ p2 ho hW2 hand
    have hle := cN_le D (mfWorst a b c) s hs hp t ht hx
    have B1 : 0 ≤ cN (mfWorst a b c) b _ ∧ cN (mfWorst a b c) b _ ≤ 1024000000 := cst_box D.set (worst_ok D.is) _ p1.1 p1.2.1
    have B2 : 0 ≤ cN (mfWorst a b c) b _ ∧ cN (mfWorst a b c) b _ ≤ 1024000000 := cst_box D.set (worst_ok D.is) _ p2.1 p2.2.1
    rw [mfWorst_eq D.is t ht s _ _ ⟨B1.1, Int.le_trans B1.2 (by decide)⟩ ⟨B2.1, Int.le_trans B2.2 (by decide)⟩] at hle
    exact low_ar hle i1 i2
   ·rcases one_way D hs ht hx with hall | hall
    ·refine io s W hs ho hW (fun f hf hm => ?_)
     have h1 := h f hf hm
     rw [DT.ends_node, DT.cost_node] at h1
     rw [if_pos (hall f hf hm), if_pos (hall f hf hm)] at h1
     exact ⟨h1.1, low_at h1.2 (hcost t ht)⟩
    ·refine iz s W hs hz hW (fun f hf hm => ?_)
     have h1 := h f hf hm
     have hn : ¬ memB (rd (onesOf b) (t : Int)) f = true := by rw [hall f hf hm]; decide
     rw [DT.ends_node, DT.cost_node] at h1
     rw [if_neg hn, if_neg hn] at h1
     exact ⟨h1.1, low_at h1.2 (hcost t ht)⟩
def dtOf (plan : List S57) : Nat → Int → DT
 | 0, _ => .leaf 0
 | d + 1, p => if (rd_T57 plan p).f0 < 0 then .leaf (rd_T57 plan p).f1.toNat else .node (rd_T57 plan p).f0.toNat (dtOf plan d (rd_T57 plan p).f2) (dtOf plan d (rd_T57 plan p).f3)
theorem dt_way (h : CaseIs a b c) {plan : List S57} (H : PlanIs a.length b.length plan) (d : Nat) : ∀ p : Nat, p < plan.length → plan.length ≤ p + d → (dtOf plan d p).ok b.length ∧ ∀ f, f < a.length → ((dtOf plan d p).ends (onesOf b) f : Int) = (wayN b plan (f : Int) d p).2 ∧ (dtOf plan d p).cost (onesOf b) c f = costL c (wayN b plan (f : Int) d p).1 := by
 induction d with
 | zero => intro p hp hd; omega
 | succ d ih =>
  intro p hp hd
  unfold dtOf wayN
  by_cases h0 : (rd_T57 plan (p : Int)).f0 < 0
  ·have hl := node_leaf (H.node p hp) h0
   rw [if_pos h0]
   refine ⟨trivial, fun f hf => ?_⟩
   rw [if_pos h0]
   exact ⟨by show (((rd_T57 plan (p : Int)).f1.toNat : Nat) : Int) = _; omega, rfl⟩
  ·obtain ⟨o1, o2, o3, o4, o5, o6, o7⟩ := node_inner (H.node p hp) h0
   rw [if_neg h0]
   obtain ⟨t, ht⟩ : ∃ t : Nat, (rd_T57 plan (p : Int)).f0 = (t : Int) := ⟨(rd_T57 plan (p : Int)).f0.toNat, by omega⟩
   obtain ⟨z, hz⟩ : ∃ z : Nat, (rd_T57 plan (p : Int)).f2 = (z : Int) := ⟨(rd_T57 plan (p : Int)).f2.toNat, by omega⟩
   obtain ⟨o, ho⟩ : ∃ o : Nat, (rd_T57 plan (p : Int)).f3 = (o : Int) := ⟨(rd_T57 plan (p : Int)).f3.toNat, by omega⟩
   obtain ⟨z1, z2⟩ := ih z (by omega) (by omega)
   obtain ⟨q1, q2⟩ := ih o (by omega) (by omega)
   rw [ht, hz, ho, Int.toNat_natCast]
   refine ⟨⟨by omega, z1, q1⟩, fun f hf => ?_⟩
   rw [if_neg (by omega)]
   have hm := row_mem h t f (by omega) hf
   rw [DT.ends_node, DT.cost_node]
   by_cases hb : memB (rd (onesOf b) (t : Int)) f = true
   ·rw [if_pos hb, if_pos hb, if_pos (hm.2 hb)]
    exact ⟨(q2 f hf).1, by rw [(q2 f hf).2]; rfl⟩
   ·rw [if_neg hb, if_neg hb, if_neg (fun e => hb (hm.1 e))]
    exact ⟨(z2 f hf).1, by rw [(z2 f hf).2]; rfl⟩
/-- A correct plan is a tree that comes to each fault's leaf. -/
theorem corr_dt (D : Differ a b c) {plan : List S57} {m w : Int} (h : corrR a b c plan = (m, w, true)) : ∃ T : DT, T.ok b.length ∧ (∀ f, f < a.length → T.ends (onesOf b) f = f) ∧ meanT a c (onesOf b) (allOf a) T = m ∧ maxR (fun f => T.cost (onesOf b) c f) a.length = w := by
 unfold corrR at h
 split at h
 ·rename_i hp
  rw [Bool.and_eq_true] at hp
  have H := plan_is hp.1
  have hl1 := H.l1
  obtain ⟨k1, k2⟩ := dt_way D.is H plan.length 0 (by omega) (by omega)
  rw [show ((0 : Nat) : Int) = 0 from rfl] at k1 k2
  injection h with h1 h2
  injection h2 with h2 _
  refine ⟨dtOf plan plan.length 0, k1, fun f hf => ?_, ?_, ?_⟩
  ·have e1 := (k2 f hf).1
   have e2 := (allB_iff _ _ _).1 hp.2 f (by omega) (by omega)
   have e3 : (wayP b plan (f : Int)).2 = (f : Int) := by simpa using e2
   unfold wayP at e3
   rw [e3] at e1
   exact Int.ofNat.inj e1
  ·rw [← h1]
   unfold meanT
   refine sumR_congr _ (fun f hf => ?_)
   rw [all_mem, if_pos (decide_eq_true hf), (k2 f hf).2]; rfl
  ·rw [← h2]
   refine maxR_congr _ (fun f hf => ?_)
   rw [(k2 f hf).2]; rfl
 ·injection h with _ h2
  injection h2 with _ h3
  cases h3
/-- The best trees. -/
theorem best_dt (D : Differ a b c) : (∃ T : DT, T.ok b.length ∧ (∀ f, f < a.length → T.ends (onesOf b) f = f) ∧ meanT a c (onesOf b) (allOf a) T = cN (mfMean a b c) b (allOf a)) ∧
  (∃ T : DT, T.ok b.length ∧ (∀ f, f < a.length → T.ends (onesOf b) f = f) ∧ maxR (fun f => T.cost (onesOf b) c f) a.length = cN (mfWorst a b c) b (allOf a)) := by
 have H1 := chs_ok D (mfMean a b c)
 have H2 := chs_ok D (mfWorst a b c)
 obtain ⟨T1, h1, h2, h3, _⟩ := corr_dt D (corr_tree D H1)
 obtain ⟨T2, g1, g2, _, g4⟩ := corr_dt D (corr_tree D H2)
 exact ⟨⟨T1, h1, h2, h3.trans (cN_mean D _ (allOf a) (all_in D) (Nat.le_refl _)).symm⟩, ⟨T2, g1, g2, g4.trans (cN_worst D _ (allOf a) (all_in D) (Nat.le_refl _)).symm⟩⟩
end
end Go.Proofs.YtekmiepdodaidaaDoor.X
end

section
/- Layer 7: the program's functions at a case in which all faults differ. -/
set_option linter.unusedVariables false
set_option linter.unusedSimpArgs false
namespace Go.Proofs.YtekmiepdodaidaaDoor.X
open Go.RowKit Go.Proofs.YtekmiepdodaidaaDoorW.PrintWords Go.Proofs.YtekmiepdodaidaaDoorW.PrintLast Go.Proofs.YtekmiepdodaidaaDoorW.PrintMore

def planM (a : List Int) (b : List (List Int)) (c : List Int) : List S57 := treeB (fun s => (chs (mfMean a b c) (onesOf b) s).1) (onesOf b) (allOf a) 0
def planW (a : List Int) (b : List (List Int)) (c : List Int) : List S57 := treeB (fun s => (chs (mfWorst a b c) (onesOf b) s).1) (onesOf b) (allOf a) 0
def valM (a : List Int) (b : List (List Int)) (c : List Int) : Int := cN (mfMean a b c) b (allOf a)
def valW (a : List Int) (b : List (List Int)) (c : List Int) : Int := cN (mfWorst a b c) b (allOf a)
theorem boxS7 {W : World} {g : Nat} {x y z : Value} (h : W.heap[g]? = some (.cells #[x, y, z] 25 (0, 0))) : W.cell? ⟨g, 0, none⟩ = some x ∧ W.cell? ⟨g, 1, none⟩ = some y ∧ W.cell? ⟨g, 2, none⟩ = some z :=
 ⟨(blk_cell h 0).trans rfl, (blk_cell h 1).trans rfl, (blk_cell h 2).trans rfl⟩
/-- A list that was made comes back, in a value. -/
def SlPost {α : Type} (d : Kd α) (l : List α) (f : Value → Value) (w : World) (e : Ending) (w' : World) : Prop := ∃ A n, e = .returned (f (.slice A l.length n)) ∧ (l.length ≤ n ∧ d.C w' A l.length l) ∧ Below w.heap.size w w'
theorem sl_post {α : Type} {d : Kd α} {e : Nat} {l : List α} {v : Value} {w w' : World} {f : Value → Value} {base : Nat} {ok : Nat → Prop} (h : d.R e w' base ok v l) (hb : Below w.heap.size w w') : SlPost d l f w (.returned (f v)) w' := by
 obtain ⟨A, n, rfl⟩ := Kd.R_slice h
 exact ⟨A, n, rfl, ⟨(Kd.R_reads' h).2.1, (Kd.R_reads' h).2.2⟩, hb⟩
section
variable {A0 : Option Addr} {c0 : Nat} {a : List Int} {A1 : Option Addr} {c1 : Nat} {b : List (List Int)} {A2 : Option Addr} {c2 : Nat} {c : List Int} {w : World}
theorem best_n (h : CaseAt w A0 c0 a A1 c1 b A2 c2 c) (D : Differ a b c) (hT : Tab w) : Calls Tryd.prog 14 #[.agg #[.slice A0 a.length c0, .slice A1 b.length c1, .slice A2 c.length c2]] w (SlPost k57 (planM a b c) (fun v => .tuple #[v, .int .i64 (valM a b c), .int .i64 0]) w) := by
 refine (tests_Best.calls A0 c0 a A1 c1 b A2 c2 c (planM a b c) (valM a b c) 0 w h.r0 h.n0 h.r1 h.n1 h.r2 h.n2 ?_ hT).mono ?_
 ·unfold tests_Best.f optRes
  rw [if_pos (caseB_of D.is), if_pos D.al]; rfl
 ·rintro e w' ⟨v, rfl, hv, hb⟩
  exact sl_post (f := fun v => .tuple #[v, .int .i64 (valM a b c), .int .i64 0]) hv hb
theorem worst_n (h : CaseAt w A0 c0 a A1 c1 b A2 c2 c) (D : Differ a b c) (hT : Tab w) : Calls Tryd.prog 15 #[.agg #[.slice A0 a.length c0, .slice A1 b.length c1, .slice A2 c.length c2]] w (SlPost k57 (planW a b c) (fun v => .tuple #[v, .int .i64 (valW a b c), .int .i64 0]) w) := by
 refine (tests_Worst.calls A0 c0 a A1 c1 b A2 c2 c (planW a b c) (valW a b c) 0 w h.r0 h.n0 h.r1 h.n1 h.r2 h.n2 ?_ hT).mono ?_
 ·unfold tests_Worst.f optRes
  rw [if_pos (caseB_of D.is), if_pos D.al]; rfl
 ·rintro e w' ⟨v, rfl, hv, hb⟩
  exact sl_post (f := fun v => .tuple #[v, .int .i64 (valW a b c), .int .i64 0]) hv hb
theorem awake_n (w : World) (hT : Tab w) : Calls Tryd.prog 17 #[] w fun e w' => e = .returned (.bool true) ∧ Below w.heap.size w w' := by
 obtain ⟨k, hk⟩ := awake_ev.rounds
 exact tickinglaw07_awake.calls k true w hk hT
/-- A law's case, in a box of its own. -/
structure LawW (w : World) (A0 : Option Addr) (c0 : Nat) (a : List Int) (A1 : Option Addr) (c1 : Nat) (b : List (List Int)) (A2 : Option Addr) (c2 : Nat) (c : List Int) (g : Nat) (w' : World) : Prop where
 bx : w'.heap[g]? = some (.cells #[.slice A0 a.length c0, .slice A1 b.length c1, .slice A2 c.length c2] 25 (0, 0))
 cs : CaseAt w' A0 c0 a A1 c1 b A2 c2 c
 bl : Below w.heap.size w w'
 lt : w.heap.size ≤ g
theorem LawW.below {w : World} {A0 : Option Addr} {c0 : Nat} {a : List Int} {A1 : Option Addr} {c1 : Nat} {b : List (List Int)} {A2 : Option Addr} {c2 : Nat} {c : List Int} {g : Nat} {w' w2 : World} (h : LawW w A0 c0 a A1 c1 b A2 c2 c g w') (hb : Below w'.heap.size w' w2) : LawW w A0 c0 a A1 c1 b A2 c2 c g w2 := ⟨blk_below h.bx hb, h.cs.below hb, below_step h.bl hb, h.lt⟩
theorem LawW.cells {w : World} {A0 : Option Addr} {c0 : Nat} {a : List Int} {A1 : Option Addr} {c1 : Nat} {b : List (List Int)} {A2 : Option Addr} {c2 : Nat} {c : List Int} {g : Nat} {w' : World} (h : LawW w A0 c0 a A1 c1 b A2 c2 c g w') : w'.cell? ⟨g, 0, none⟩ = some (.slice A0 a.length c0) ∧ w'.cell? ⟨g, 1, none⟩ = some (.slice A1 b.length c1) ∧ w'.cell? ⟨g, 2, none⟩ = some (.slice A2 c.length c2) := boxS7 h.bx
end
section
variable {a : List Int} {b : List (List Int)} {c : List Int}
end
end Go.Proofs.YtekmiepdodaidaaDoor.X
end

section
/- Layer 7: lists that come back as the caller's own; more of the program's functions. -/
set_option linter.unusedVariables false
set_option linter.unusedSimpArgs false
namespace Go.Proofs.YtekmiepdodaidaaDoor.X
open Go.RowKit Go.Proofs.YtekmiepdodaidaaDoorW.PrintWords Go.Proofs.YtekmiepdodaidaaDoorW.PrintLast Go.Proofs.YtekmiepdodaidaaDoorW.PrintMore

def OwPost {α : Type} (d : Kd α) (t : Nat) (l : List α) (f : Value → Value) (w : World) (e : Ending) (w' : World) : Prop := ∃ A n, e = .returned (f (.slice A l.length n)) ∧ d.R t w' w.heap.size (fun _ => True) (.slice A l.length n) l ∧ Below w.heap.size w w'
theorem ow_post {α : Type} {d : Kd α} {t : Nat} {l : List α} {v : Value} {w w' : World} {f : Value → Value} (h : d.R t w' w.heap.size (fun _ => True) v l) (hb : Below w.heap.size w w') : OwPost d t l f w (.returned (f v)) w' := by
 obtain ⟨A, n, rfl⟩ := Kd.R_slice h
 exact ⟨A, n, rfl, h, hb⟩
section
variable {A0 : Option Addr} {c0 : Nat} {a : List Int} {A1 : Option Addr} {c1 : Nat} {b : List (List Int)} {A2 : Option Addr} {c2 : Nat} {c : List Int} {w : World}
theorem cut14_id {l : List Int} (h : l.length ≤ 14) : cut14 l = l := List.take_of_length_le h
theorem cutB_id {n : Nat} {b : List (List Int)} (hb : b.length ≤ 14) (hn : n ≤ 14) (h : b.all (rowOkB n) = true) : cutB b = b := by
 unfold cutB
 rw [List.take_of_length_le hb]
 conv => rhs; rw [← List.map_id b]
 refine List.map_congr_left (fun l hl => ?_)
 have h1 := List.all_eq_true.1 h l hl
 unfold rowOkB at h1
 simp only [Bool.and_eq_true, beq_iff_eq] at h1
 exact cut14_id (by omega)
end
end Go.Proofs.YtekmiepdodaidaaDoor.X
end
