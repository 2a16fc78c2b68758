/- Texts behind TestsCovers, part 26: contracts of the program's functions and the plain words for them. -/
import Derived.BigQuiet
import Derived.Deep.QuietTactic
import Derived.Test.YtekmiepdodaidaaDoorTpas
import Derived.Test.YtekmiepdodaidaaDoorTpat
import Derived.Test.YtekmiepdodaidaaDoorTpau
import Derived.Test.YtekmiepdodaidaaDoorTpav
import Derived.Test.YtekmiepdodaidaaDoorTpaw
import Derived.Test.YtekmiepdodaidaaDoorTpax
import Derived.Test.YtekmiepdodaidaaDoorTpay
section
namespace Go.Proofs.YtekmiepdodaidaaDoor.X
open Go.RowKit Go.Proofs.YtekmiepdodaidaaDoorW.PrintWords Go.Proofs.YtekmiepdodaidaaDoorW.PrintLast Go.Proofs.YtekmiepdodaidaaDoorW.PrintMore
attribute [local go_sem] max2_int min2_int max_two min_two max_three min_three max_four min_four   -- for this text's walks alone
set_option linter.unusedVariables false
set_option linter.unusedSimpArgs false

def tickinglaw07_mod.f (a0 : Int) (a1 : Int) : Option (Int) := if (IntKind.u64.wrap (a1)) = 0 then (none) else (some (wrap64 (Int.tmod (IntKind.u64.wrap (a0)) (IntKind.u64.wrap (a1)))))
set_option maxHeartbeats 8000000 in
set_option maxRecDepth 100000 in
theorem tickinglaw07_mod.calls (a0 : Int) (a1 : Int) (r : Int) (w : World) (h : tickinglaw07_mod.f a0 a1 = some r) :
  Calls Tryd.prog 34 #[.int .i64 a0, .int .i64 a1] w fun e w' => e = .returned (.int .i64 r) ∧ Drawn0 w w' := by
 have H : (if (IntKind.u64.wrap (a1)) = 0 then (none) else (some (wrap64 (Int.tmod (IntKind.u64.wrap (a0)) (IntKind.u64.wrap (a1)))))) = some r := h
 clear h
 by_cases c3 : (IntKind.u64.wrap (a1)) = 0
 ·rw [if_pos c3] at H
  exact absurd H (by simp)
 ·rw [if_neg c3] at H
  have c3b0 : ((IntKind.u64.wrap (a1)) == 0) = false := beq_eq_false_iff_ne.mpr c3
  have c3b1 : ((IntKind.u64.wrap (a1)) != 0) = true := bne_iff_ne.mpr c3
  obtain rfl := Option.some.inj H
  go_enter Tryd.func34, Tryd.ntmps34
  go_wp2
  go_ret
  exact ⟨by first | rfl | (simp; done) | (simp [*]; done), by repeat (first | exact Drawn0.refl _ | apply Drawn0.step)⟩

end Go.Proofs.YtekmiepdodaidaaDoor.X
end

section
namespace Go.Proofs.YtekmiepdodaidaaDoor.X
open Go.RowKit Go.Proofs.YtekmiepdodaidaaDoorW.PrintWords Go.Proofs.YtekmiepdodaidaaDoorW.PrintLast Go.Proofs.YtekmiepdodaidaaDoorW.PrintMore
attribute [local go_sem] max2_int min2_int max_two min_two max_three min_three max_four min_four   -- for this text's walks alone
set_option linter.unusedVariables false
set_option linter.unusedSimpArgs false

def tickinglaw07_at.f (l0 : List Int) (a1 : Int) : Option (Int) := if a1 < (l0.length : Int) then (if 0 ≤ a1 then (some (rd l0 a1)) else (none)) else (some 0)
set_option maxHeartbeats 8000000 in
set_option maxRecDepth 100000 in
theorem tickinglaw07_at.calls (A0 : Option Addr) (c0 : Nat) (l0 : List Int) (a1 : Int) (r : Int) (w : World) (hr0 : Kd.C (Kd.int .i64) w A0 l0.length l0) (hc0 : l0.length ≤ c0) (h : tickinglaw07_at.f l0 a1 = some r) :
  Calls Tryd.prog 35 #[.slice A0 l0.length c0, .int .i64 a1] w fun e w' => e = .returned (.int .i64 r) ∧ Drawn0 w w' := by
 have HR0 := Aside0.mk hr0
 have HC0 := Aside0.mk hc0
 clear hr0 hc0
 have H : (if a1 < (l0.length : Int) then (if 0 ≤ a1 then (some (rd l0 a1)) else (none)) else (some 0)) = some r := h
 clear h
 by_cases c3 : a1 < (l0.length : Int)
 ·rw [if_pos c3] at H
  have c3b0 : decide (a1 < (l0.length : Int)) = true := decide_eq_true c3
  clear c3
  by_cases c4 : 0 ≤ a1
  ·rw [if_pos c4] at H
   have c4b0 : decide (0 ≤ a1) = true := decide_eq_true c4
   clear c4
   obtain rfl := Option.some.inj H
   have p558 : 0 ≤ (a1 : Int) := of_decide_eq_true az
   have q558 : a1 < (l0.length : Int) := of_decide_eq_true az
   obtain ⟨ad558, e558, hx558_0⟩ := Kd.at_int HR0.out a1 p558 q558
   cases e558
   replace p558 := eq_true p558
   replace q558 := eq_true q558
   go_enter Tryd.func35, Tryd.ntmps35
   go_wp2
   go_ret
   exact ⟨by first | rfl | (simp; done) | (simp [*]; done), by repeat (first | exact Drawn0.refl _ | apply Drawn0.step)⟩
  ·rw [if_neg c4] at H
   exact absurd H (by simp)
 ·rw [if_neg c3] at H
  have c3b0 : decide (a1 < (l0.length : Int)) = false := decide_eq_false c3
  clear c3
  obtain rfl := Option.some.inj H
  go_enter Tryd.func35, Tryd.ntmps35
  go_wp2
  go_ret
  exact ⟨by first | rfl | (simp; done) | (simp [*]; done), by repeat (first | exact Drawn0.refl _ | apply Drawn0.step)⟩

end Go.Proofs.YtekmiepdodaidaaDoor.X
end

section
/- Layer 7, plain: mod, at, and the case that tame makes. -/
set_option linter.unusedVariables false
namespace Go.Proofs.YtekmiepdodaidaaDoor.X
open Go.RowKit Go.Proofs.YtekmiepdodaidaaDoorW.PrintWords Go.Proofs.YtekmiepdodaidaaDoorW.PrintLast Go.Proofs.YtekmiepdodaidaaDoorW.PrintMore

def modN (x n : Int) : Int := (x % 18446744073709551616) % n
theorem modN_in (x n : Int) (h : 1 ≤ n) : 0 ≤ modN x n ∧ modN x n < n := ⟨Int.emod_nonneg _ (by omega), Int.emod_lt_of_pos _ (by omega)⟩
theorem mod_eq (x n : Int) (h : 1 ≤ n) (h2 : n ≤ 1000000) : tickinglaw07_mod.f x n = some (modN x n) := by
 have h3 := modN_in x n h
 unfold tickinglaw07_mod.f
 rw [IntKind.wrap_u64, IntKind.wrap_u64, show n % 18446744073709551616 = n by omega, if_neg (by omega), Int.tmod_eq_emod_of_nonneg (by omega)]
 unfold modN at *
 unfold wrap64
 exact congrArg some (by omega)
def atN (l : List Int) (i : Nat) : Int := l.getD i 0
theorem at_eq (l : List Int) (i : Nat) : tickinglaw07_at.f l (i : Int) = some (atN l i) := by
 unfold tickinglaw07_at.f atN
 by_cases h : i < l.length
 ·rw [if_pos (by omega), if_pos (by omega)]; simp [rd]
 ·rw [if_neg (by omega)]; simp [List.getD_eq_getElem?_getD, List.getElem?_eq_none (show l.length ≤ i by omega)]
def tameN (a : List Int) : Nat := (1 + modN ((a.length : Int) - 1) 10).toNat
def tameX (x : Int) : Int := if x < 1 ∨ x > 1000 then 1 + modN x 1000 else x
def tameW (a : List Int) : List Int := (List.range (tameN a)).map fun i => tameX (atN a i)
def tameRow (n : Nat) (l : List Int) : List Int := (List.range n).map fun i => modN (atN l i) 2
def tameBit (n bit : Nat) : List Int := (List.range n).map fun i => ((i / 2 ^ bit % 2 : Nat) : Int)
def tameK (b : List (List Int)) : Nat := min b.length 6
def tameB1 (n : Nat) (b : List (List Int)) (m : Nat) : List (List Int) := (List.range m).map fun t : Nat => tameRow n (rd_L1 b (t : Int))
def tameB2 (n m : Nat) : List (List Int) := (List.range m).map fun t => tameBit n t
def tameC1 (c : List Int) (m : Nat) : List Int := (List.range m).map fun t => 1 + modN (wrap64 (atN c t - 1)) 100
def tameC2 (c : List Int) (m : Nat) : List Int := (List.range m).map fun t => 1 + modN (atN c t) 100
def tameB (a : List Int) (b : List (List Int)) : List (List Int) := tameB1 (tameN a) b (tameK b) ++ tameB2 (tameN a) 4
def tameC (b : List (List Int)) (c : List Int) : List Int := tameC1 c (tameK b) ++ tameC2 c 4
theorem tameN_in (a : List Int) : 1 ≤ tameN a ∧ tameN a ≤ 10 := by
 have := modN_in ((a.length : Int) - 1) 10 (by omega)
 unfold tameN; omega
theorem tameX_in (x : Int) : 1 ≤ tameX x ∧ tameX x ≤ 1000 := by
 have := modN_in x 1000 (by omega)
 unfold tameX; split <;> omega
theorem tameRow_ok (n : Nat) (l : List Int) : rowOkB n (tameRow n l) = true := by
 unfold rowOkB tameRow
 rw [Bool.and_eq_true, beq_iff_eq, List.length_map, List.length_range]
 refine ⟨rfl, (all_inB _ _ _).2 fun x hx => ?_⟩
 obtain ⟨i, _, rfl⟩ := List.mem_map.1 hx
 have := modN_in (atN l i) 2 (by omega)
 omega
theorem tameBit_ok (n t : Nat) : rowOkB n (tameBit n t) = true := by
 unfold rowOkB tameBit
 rw [Bool.and_eq_true, beq_iff_eq, List.length_map, List.length_range]
 refine ⟨rfl, (all_inB _ _ _).2 fun x hx => ?_⟩
 obtain ⟨i, _, rfl⟩ := List.mem_map.1 hx
 have := Nat.mod_lt (i / 2 ^ t) (show 0 < 2 by omega)
 omega
theorem tameB_len (a : List Int) (b : List (List Int)) : (tameB a b).length = tameK b + 4 := by unfold tameB tameB1 tameB2; simp
theorem tameC_len (b : List (List Int)) (c : List Int) : (tameC b c).length = tameK b + 4 := by unfold tameC tameC1 tameC2; simp
theorem tameW_len (a : List Int) : (tameW a).length = tameN a := by unfold tameW; simp
theorem tameC_in (b : List (List Int)) (c : List Int) : ∀ x ∈ tameC b c, 1 ≤ x ∧ x ≤ 100 := by
 intro x hx
 unfold tameC tameC1 tameC2 at hx
 rcases List.mem_append.1 hx with h | h
 ·obtain ⟨i, _, rfl⟩ := List.mem_map.1 h
  have := modN_in (wrap64 (atN c i - 1)) 100 (by omega)
  omega
 ·obtain ⟨i, _, rfl⟩ := List.mem_map.1 h
  have := modN_in (atN c i) 100 (by omega)
  omega
theorem tame_case (a : List Int) (b : List (List Int)) (c : List Int) : CaseIs (tameW a) (tameB a b) (tameC b c) := by
 have hn := tameN_in a
 refine ⟨by rw [tameW_len]; exact hn.1, by rw [tameW_len]; exact hn.2, ?_, by rw [tameB_len, tameC_len], ?_, tameC_in b c, ?_⟩
 ·rw [tameB_len]; have : tameK b ≤ 6 := Nat.min_le_right _ _; omega
 ·intro x hx
  unfold tameW at hx
  obtain ⟨i, _, rfl⟩ := List.mem_map.1 hx
  exact tameX_in _
 ·rw [List.all_eq_true, tameW_len]
  intro r hr
  unfold tameB tameB1 tameB2 at hr
  rcases List.mem_append.1 hr with h | h
  ·obtain ⟨i, _, rfl⟩ := List.mem_map.1 h; exact tameRow_ok _ _
  ·obtain ⟨i, _, rfl⟩ := List.mem_map.1 h; exact tameBit_ok _ _
theorem caseB_of {a : List Int} {b : List (List Int)} {c : List Int} (h : CaseIs a b c) : caseB a b c = true := by
 unfold caseB
 simp only [Bool.and_eq_true, decide_eq_true_eq, beq_iff_eq]
 exact ⟨⟨⟨⟨⟨⟨h.a1, h.a10⟩, h.b12⟩, h.cb⟩, (all_inB _ _ _).2 h.wa⟩, (all_inB _ _ _).2 h.wc⟩, h.rows⟩
theorem bits_differ : ∀ j, j < 10 → ∀ i, i < j → ∃ t, t < 4 ∧ i / 2 ^ t % 2 ≠ j / 2 ^ t % 2 := by decide
/-- In a tame case every two faults differ. -/
theorem tame_differ (a : List Int) (b : List (List Int)) (c : List Int) : Differ (tameW a) (tameB a b) (tameC b c) := by
 have hc := tame_case a b c
 have hn := tameN_in a
 refine ⟨hc, (alikeL_iff _ _).2 fun j hj i hi => ?_⟩
 rw [tameW_len] at hj
 obtain ⟨t, ht, hne⟩ := bits_differ j (by omega) i hi
 have hl : tameK b + t < (tameB a b).length := by rw [tameB_len]; omega
 have hrow : (tameB a b)[tameK b + t] = tameBit (tameN a) t := by
  have h1 : (tameB1 (tameN a) b (tameK b)).length = tameK b := by unfold tameB1; simp
  have h2 : (tameB a b)[tameK b + t]? = some (tameBit (tameN a) t) := by
   unfold tameB
   rw [List.getElem?_append_right (by rw [h1]; omega), h1]
   simp [tameB2, ht]
  rw [List.getElem?_eq_getElem hl] at h2
  exact Option.some.inj h2
 refine ⟨_, List.mem_map.2 ⟨_, List.getElem_mem hl, rfl⟩, ?_⟩
 rw [same_row hc (tameK b + t) hl i j (by rw [tameW_len]; omega) (by rw [tameW_len]; omega), hrow]
 have e : ∀ q, q < tameN a → rd (tameBit (tameN a) t) (q : Int) = ((q / 2 ^ t % 2 : Nat) : Int) := by
  intro q hq
  unfold tameBit
  simp [rd, List.getD_eq_getElem?_getD, List.getElem?_map, List.getElem?_range hq]
 rw [e i (by omega), e j hj]
 rw [beq_eq_false_iff_ne]
 intro h
 exact hne (by exact_mod_cast h)
end Go.Proofs.YtekmiepdodaidaaDoor.X
end

section
/- tickinglaw07.with, by hand: a test more, appended to lists of the caller's own. -/
set_option linter.unusedVariables false
set_option linter.unusedSimpArgs false
namespace Go.Proofs.YtekmiepdodaidaaDoor.X
open Go.RowKit Go.Proofs.YtekmiepdodaidaaDoorW.PrintWords Go.Proofs.YtekmiepdodaidaaDoorW.PrintLast Go.Proofs.YtekmiepdodaidaaDoorW.PrintMore

theorem info22w : (Tryd.prog.info? 22).map (fun i => (i.zero, i.size, i.bytes)) = some (some (.slice none 0 0), 1, 24) := by kernel_rfl
theorem info3w : (Tryd.prog.info? 3).map (fun i => (i.zero, i.size, i.bytes)) = some (some (.int .i64 0), 1, 8) := by kernel_rfl
/-- What with does: the two new lists; nothing else that was there has changed. -/
structure WithPost {α : Type} (d : Kd α) (w : World) (base : Nat) (V0 V1 V2 : Value) (xs : List α) (p : α) (c : List Int) (cost : Int) (okA okB : Nat → Prop) (v1 v2 : Value) (w' : World) : Prop where
 r1 : d.R 22 w' base (fun k => okA k ∧ some k ≠ v2.ownBlock) v1 (xs ++ [p])
 r2 : Kd.R (Kd.int .i64) 3 w' base okB v2 (c ++ [cost])
 keep : ∀ k, k < w.heap.size → some k ≠ V1.ownBlock → some k ≠ V2.ownBlock → w'.heap[k]? = w.heap[k]?
 at1 : v1.ownBlock = V1.ownBlock ∨ ∃ b, v1.ownBlock = some b ∧ w.heap.size ≤ b
 at2 : v2.ownBlock = V2.ownBlock ∨ ∃ b, v2.ownBlock = some b ∧ w.heap.size ≤ b
 below : Below base w w'
set_option maxHeartbeats 8000000 in
set_option maxRecDepth 100000 in
theorem with_core {α : Type} (d : Kd α) (hsz : d.sz = 1) (hE : ∀ q, q ∈ 22 :: d.E → q ≠ 25) (w : World) (base : Nat) (A0 : Option Addr) (n0 c0 : Nat) (A1 : Option Addr) (c1 : Nat) (A2 : Option Addr) (c2 : Nat) (AR : Option Addr) (nR cR : Nat) (xs : List α) (p : α) (c : List Int) (cost : Int) (okA okB okp : Nat → Prop)
  (h1 : d.R 22 w base (fun k => okA k ∧ some k ≠ (Value.slice A2 c.length c2).ownBlock) (.slice A1 xs.length c1) xs)
  (hp : d.M w base okp p [.slice AR nR cR]) (hokp : ∀ k, okp k → (okA k ∧ some k ≠ (Value.slice A2 c.length c2).ownBlock) ∧ some k ≠ (Value.slice A1 xs.length c1).ownBlock)
  (h2 : Kd.R (Kd.int .i64) 3 w base okB (.slice A2 c.length c2) c)
  (hA : ∀ k, w.heap.size ≤ k → okA k) (hB : ∀ k, w.heap.size ≤ k → okB k) (hbase : base ≤ w.heap.size) (hl1 : xs.length ≤ 1000000) (hl2 : c.length ≤ 1000000) :
  Calls Tryd.prog 36 #[.agg #[.slice A0 n0 c0, .slice A1 xs.length c1, .slice A2 c.length c2], .slice AR nR cR, .int .i64 cost] w fun e w' => ∃ v1 v2, e = .returned (.agg #[.slice A0 n0 c0, v1, v2]) ∧ WithPost d w base (.slice A0 n0 c0) (.slice A1 xs.length c1) (.slice A2 c.length c2) xs p c cost okA okB v1 v2 w' := by
 have H1 := Aside0.mk h1
 have HP := Aside0.mk hp
 have HOKP := Aside0.mk hokp
 have H2 := Aside0.mk h2
 have HA := Aside0.mk hA
 have HBB := Aside0.mk hB
 have HBASE := Aside0.mk hbase
 have HSZ := Aside0.mk hsz
 have HE := Aside0.mk hE
 clear h1 hp hokp h2 hA hB hbase hE hsz
 go_enter Tryd.func36, Tryd.ntmps36
 go_upto_region 1 with (fail)
 go_quiet (fail)
 obtain ⟨w1, hw1⟩ : ∃ w1, w1 = (((w.alloc (.cells #[.slice A0 n0 c0, .slice A1 xs.length c1, .slice A2 c.length c2] 25)).alloc (.cells #[.slice none 0 0, .slice none 0 0, .slice none 0 0] 25)).drewN nq) := ⟨_, rfl⟩
 have HB1 := Aside0.mk (show Below w.heap.size w w1 by rw [hw1]; exact pw_below_drewN (below_alloc (below_alloc (Below.refl _ _) _) _) _)
 have HG3 := Aside0.mk (show w1.heap[w.heap.size]? = some (.cells #[.slice A0 n0 c0, .slice A1 xs.length c1, .slice A2 c.length c2] 25 (0, 0)) by rw [hw1]; exact blk_drewN (blk_alloc (blk_new w _) _) _)
 have HG6 := Aside0.mk (show w1.heap[w.heap.size + 1]? = some (.cells #[.slice none 0 0, .slice none 0 0, .slice none 0 0] 25 (0, 0)) by rw [hw1]; have := blk_new (w.alloc (.cells #[.slice A0 n0 c0, .slice A1 xs.length c1, .slice A2 c.length c2] 25)) (.cells #[.slice none 0 0, .slice none 0 0, .slice none 0 0] 25); rw [show (w.alloc (.cells #[.slice A0 n0 c0, .slice A1 xs.length c1, .slice A2 c.length c2] 25)).heap.size = w.heap.size + 1 from Array.size_push _] at this; exact blk_drewN this _)
 have HS1 := Aside0.mk (show w.heap.size + 2 ≤ w1.heap.size by have := blk_lt HG6.out; omega)
 rw [← hw1]
 clear hw1
 have hcz : w1.cell? ⟨w.heap.size, 1, none⟩ = some (.slice A1 xs.length c1) := (blk_cell HG3.out 1).trans rfl
 have H11 := Aside0.mk (Kd.R_below H1.out HB1.out)
 have H21 := Aside0.mk (Kd.R_below H2.out HB1.out)
 have HP1 := Aside0.mk (Kd.M_below HP.out HB1.out)
 have HL1 := Aside0.mk hl1
 have HL2 := Aside0.mk hl2
 clear hl1 hl2
 have key : ∀ (ops : Array Oper) (rest : List Oper) (o : Oper) (a : Act) (Q : Exit → Act → World → Prop) (hgd : o.guard = none) (ho : o.op = .call { callee := .builtin .append, args := #[.tmp 13, .tmp 15], argTypes := #[23, 23] }) (hs : a.eval (.tmp 13) = .slice A1 xs.length c1) (hx : a.eval (.tmp 15) = .slice (some ⟨w1.heap.size, 0, none⟩) 1 1)
   (h : ∀ v1 w2, d.R 22 w2 base (fun k => okA k ∧ some k ≠ (Value.slice A2 c.length c2).ownBlock) v1 (xs ++ [p]) → Below base w w2 → w1.grownBy w2 (Value.slice A1 xs.length c1).ownBlock → (v1.ownBlock = (Value.slice A1 xs.length c1).ownBlock ∨ ∃ b, v1.ownBlock = some b ∧ w1.heap.size ≤ b) → wpList Tryd.prog ops Q rest (a.put o.dst v1) w2), wpList Tryd.prog ops Q (o :: rest) a (w1.alloc (.cells #[.slice AR nR cR] 22)) := by
  intro ops rest o a Q hgd ho hs hx h
  exact Kd.R_append d (w0 := w) base hgd (.tmp 13) (.tmp 15) 23 22 (.slice none 0 0) 24 ho Tryd.underlying23 (by rw [HSZ.out]; exact info22w) (by rw [HSZ.out]; rfl) (by rw [HSZ.out]; exact Nat.one_pos) (by omega) (.slice A1 xs.length c1) xs p [.slice AR nR cR] (fun k => okA k ∧ some k ≠ (Value.slice A2 c.length c2).ownBlock) okp hs hx HP1.out HOKP.out (fun k hk => ⟨HA.out k (by have h1 := HS1.out; omega), fun e => by have h1 := HS1.out; have := Kd.R_lt H2.out k e.symm; omega⟩) H11.out (HB1.out.mono HBASE.out) (Nat.le_trans HBASE.out HB1.out.size) (by have := HL1.out; omega) h
 have KEY := Aside0.mk key
 clear key
 have HL3 := Aside0.mk (show (xs ++ [p]).length = xs.length + 1 by simp)
 go_upto_region 3 with (at_builtin; refine KEY.out _ _ _ _ _ rfl rfl rfl rfl ?_; intro v1 w2 ho hb hg hat; obtain ⟨A3, c3, rfl⟩ := Kd.R_slice ho; have HO := Aside0.mk ho; have HB2 := Aside0.mk hb; have HG2 := Aside0.mk hg; have HAT := Aside0.mk hat; have g3' := blk_grown HG3.out hg (Kd.R_ne H11.out HG3.out (by decide)); have HG32 := Aside0.mk g3'; rw [HL3.out]; clear hcz; have hcz1 : w2.cell? ⟨w.heap.size, 1, none⟩ = some (.slice A1 xs.length c1) := (blk_cell g3' 1).trans rfl; have hfz1 := blk_frozen g3' 1; clear ho hb hg hat g3')
 clear hcz1 hfz1
 have HO' := HO.out
 rw [HL3.out] at HO'
 have HG62 := Aside0.mk (blk_grown HG6.out HG2.out (Kd.R_ne H11.out HG6.out (by decide)))
 have H22 := Aside0.mk (Kd.R_over' H21.out (Kd.R_typed H11.out) (by decide) HG2.out)
 have HS2 := Aside0.mk (show w1.heap.size ≤ w2.heap.size from HG2.out.size)
 obtain ⟨w3, hw3⟩ : ∃ w3, w3 = w2.setCell ⟨w.heap.size, 1, none⟩ (.slice A3 (xs.length + 1) c3) := ⟨_, rfl⟩
 have HG33 := Aside0.mk (show w3.heap[w.heap.size]? = some (.cells #[.slice A0 n0 c0, .slice A3 (xs.length + 1) c3, .slice A2 c.length c2] 25 (0, 0)) by rw [hw3]; exact (blk_set HG32.out 1 _).trans rfl)
 have HG63 := Aside0.mk (show w3.heap[w.heap.size + 1]? = some (.cells #[.slice none 0 0, .slice none 0 0, .slice none 0 0] 25 (0, 0)) by rw [hw3]; exact blk_far HG62.out (by show w.heap.size + 1 ≠ w.heap.size; omega) _)
 have HO3 := Aside0.mk (show d.R 22 w3 base (fun k => okA k ∧ some k ≠ (Value.slice A2 c.length c2).ownBlock) (.slice A3 (xs.length + 1) c3) (xs ++ [p]) by rw [hw3]; exact Kd.R_set HO' HG32.out HE.out 1 _)
 have H23 := Aside0.mk (show Kd.R (Kd.int .i64) 3 w3 base okB (.slice A2 c.length c2) c by rw [hw3]; exact Kd.R_set H22.out HG32.out (by decide) 1 _)
 have HB3 := Aside0.mk (show Below base w w3 by rw [hw3]; exact HB2.out.setCell HBASE.out _)
 have HS3 := Aside0.mk (show w2.heap.size ≤ w3.heap.size by rw [hw3]; simp)
 have HK3 := Aside0.mk (show ∀ k, k < w.heap.size → some k ≠ (Value.slice A1 xs.length c1).ownBlock → w3.heap[k]? = w.heap[k]? by
  intro k hk h1
  rw [hw3, Below.heap_setCell w2 _ _ k (by show k ≠ w.heap.size; omega), HG2.out.block k (Nat.lt_of_lt_of_le hk (Nat.le_trans (Nat.le_add_right _ 2) HS1.out)) h1]
  exact HB1.out.block k hk)
 rw [← hw3]
 clear hw3 HO'
 have key2 : ∀ (ops : Array Oper) (rest : List Oper) (o : Oper) (a : Act) (Q : Exit → Act → World → Prop) (hgd : o.guard = none) (ho : o.op = .call { callee := .builtin .append, args := #[.tmp 18, .tmp 20], argTypes := #[22, 22] }) (hs : a.eval (.tmp 18) = .slice A2 c.length c2) (hx : a.eval (.tmp 20) = .slice (some ⟨w3.heap.size, 0, none⟩) 1 1)
   (h : ∀ v1 w4, Kd.R (Kd.int .i64) 3 w4 base okB v1 (c ++ [cost]) → Below base w w4 → w3.grownBy w4 (Value.slice A2 c.length c2).ownBlock → (v1.ownBlock = (Value.slice A2 c.length c2).ownBlock ∨ ∃ b, v1.ownBlock = some b ∧ w3.heap.size ≤ b) → wpList Tryd.prog ops Q rest (a.put o.dst v1) w4), wpList Tryd.prog ops Q (o :: rest) a (w3.alloc (.cells #[.int .i64 cost] 3)) := by
  intro ops rest o a Q hgd ho hs hx h
  exact Kd.R_append (Kd.int .i64) (w0 := w) base hgd (.tmp 18) (.tmp 20) 22 3 (.int .i64 0) 8 ho Tryd.underlying22 info3w rfl (by decide) (by omega) (.slice A2 c.length c2) c cost [.int .i64 cost] okB (fun _ => False) hs hx rfl (fun _ h => h.elim) (fun k hk => HBB.out k (by have h1 := HS1.out; have h2 := HS2.out; have h3 := HS3.out; omega)) H23.out HB3.out (Nat.le_trans HBASE.out HB3.out.size) (by have := HL2.out; omega) h
 have KEY2 := Aside0.mk key2
 clear key2
 have HL4 := Aside0.mk (show (c ++ [cost]).length = c.length + 1 by simp)
 go_upto_region 4 with (at_builtin; refine KEY2.out _ _ _ _ _ rfl rfl rfl rfl ?_; intro v1 w4 ho hb hg hat; obtain ⟨A4, c4, rfl⟩ := Kd.R_slice ho; have HO4 := Aside0.mk ho; have HB4 := Aside0.mk hb; have HG4 := Aside0.mk hg; have HAT4 := Aside0.mk hat; have g3' := blk_grown HG33.out hg (Kd.R_ne H23.out HG33.out (by decide)); have HG34 := Aside0.mk g3'; rw [HL4.out]; have hcz1 : w4.cell? ⟨w.heap.size, 2, none⟩ = some (.slice A2 c.length c2) := (blk_cell g3' 2).trans rfl; have hfz1 := blk_frozen g3' 2; clear ho hb hg hat g3')
 clear hcz1 hfz1
 have HO' := HO4.out
 rw [HL4.out] at HO'
 have HG64 := Aside0.mk (blk_grown HG63.out HG4.out (Kd.R_ne H23.out HG63.out (by decide)))
 have HO34 := Aside0.mk (Kd.R_after HO3.out HG4.out HAT4.out)
 obtain ⟨w5, hw5⟩ : ∃ w5, w5 = w4.setCell ⟨w.heap.size, 2, none⟩ (.slice A4 (c.length + 1) c4) := ⟨_, rfl⟩
 have HG35 := Aside0.mk (show w5.heap[w.heap.size]? = some (.cells #[.slice A0 n0 c0, .slice A3 (xs.length + 1) c3, .slice A4 (c.length + 1) c4] 25 (0, 0)) by rw [hw5]; exact (blk_set HG34.out 2 _).trans rfl)
 have HG65 := Aside0.mk (show w5.heap[w.heap.size + 1]? = some (.cells #[.slice none 0 0, .slice none 0 0, .slice none 0 0] 25 (0, 0)) by rw [hw5]; exact blk_far HG64.out (by show w.heap.size + 1 ≠ w.heap.size; omega) _)
 have HV1 := Aside0.mk (show d.R 22 w5 base (fun k => okA k ∧ some k ≠ (Value.slice A4 (c ++ [cost]).length c4).ownBlock) (.slice A3 (xs.length + 1) c3) (xs ++ [p]) by rw [hw5]; exact Kd.R_set HO34.out HG34.out HE.out 2 _)
 have HV2 := Aside0.mk (show Kd.R (Kd.int .i64) 3 w5 base okB (.slice A4 (c.length + 1) c4) (c ++ [cost]) by rw [hw5]; exact Kd.R_set HO' HG34.out (by decide) 2 _)
 have HB5 := Aside0.mk (show Below base w w5 by rw [hw5]; exact HB4.out.setCell HBASE.out _)
 have HK5 := Aside0.mk (show ∀ k, k < w.heap.size → some k ≠ (Value.slice A1 xs.length c1).ownBlock → some k ≠ (Value.slice A2 c.length c2).ownBlock → w5.heap[k]? = w.heap[k]? by
  intro k hk h1 h2
  rw [hw5, Below.heap_setCell w4 _ _ k (by show k ≠ w.heap.size; omega), HG4.out.block k (by have e1 := HS1.out; have e2 := HS2.out; have e3 := HS3.out; omega) h2]
  exact HK3.out k hk h1)
 rw [← hw5]
 clear hw5 HO'
 have hc0 : w5.cell? ⟨w.heap.size, 0, none⟩ = some (.slice A0 n0 c0) := (blk_cell HG35.out 0).trans rfl
 have hc1 : w5.cell? ⟨w.heap.size, 1, none⟩ = some (.slice A3 (xs.length + 1) c3) := (blk_cell HG35.out 1).trans rfl
 have hc2 : w5.cell? ⟨w.heap.size, 2, none⟩ = some (.slice A4 (c.length + 1) c4) := (blk_cell HG35.out 2).trans rfl
 have hd0 : w5.cell? ⟨w.heap.size + 1, 0, none⟩ = some (.slice none 0 0) := (blk_cell HG65.out 0).trans rfl
 have hd1 : w5.cell? ⟨w.heap.size + 1, 1, none⟩ = some (.slice none 0 0) := (blk_cell HG65.out 1).trans rfl
 have hd2 : w5.cell? ⟨w.heap.size + 1, 2, none⟩ = some (.slice none 0 0) := (blk_cell HG65.out 2).trans rfl
 have hf0 := blk_frozen HG65.out 0
 have hf1 := blk_frozen HG65.out 1
 have hf2 := blk_frozen HG65.out 2
 go_wp2
 refine bodyPost_ret (results_cell_row rfl _ _ (w.heap.size + 1) 25 #[.slice A0 n0 c0, .slice A3 (xs.length + 1) c3, .slice A4 (c.length + 1) c4] (0, 0) _ rfl ((blk_set ((blk_set ((blk_set HG65.out 0 (.slice A0 n0 c0)).trans rfl) 1 (.slice A3 (xs.length + 1) c3)).trans rfl) 2 (.slice A4 (c.length + 1) c4)).trans rfl) Tryd.underlying25 rfl (by kernel_rfl)) rfl ?_
 have e1 := HV1.out
 rw [HL4.out] at e1
 have e3 := HAT.out
 rw [HL3.out] at e3
 have e4 := HAT4.out
 rw [HL4.out] at e4
 have g0 := blk_set HG65.out 0 (.slice A0 n0 c0)
 have g1 := blk_set g0 1 (.slice A3 (xs.length + 1) c3)
 refine ⟨_, _, rfl, ⟨?_, ?_, ?_, ?_, ?_, ?_⟩⟩
 ·exact Kd.R_set (Kd.R_set (Kd.R_set e1 HG65.out HE.out 0 _) g0 HE.out 1 _) g1 HE.out 2 _
 ·exact Kd.R_set (Kd.R_set (Kd.R_set HV2.out HG65.out (by decide) 0 _) g0 (by decide) 1 _) g1 (by decide) 2 _
 ·intro k hk h1 h2
  have hne : k ≠ w.heap.size + 1 := by omega
  rw [Below.heap_setCell _ _ _ k hne, Below.heap_setCell _ _ _ k hne, Below.heap_setCell _ _ _ k hne]
  exact HK5.out k hk h1 h2
 ·rcases e3 with h | ⟨q, h1, h2⟩
  ·exact .inl h
  ·exact .inr ⟨q, h1, by have := HS1.out; omega⟩
 ·rcases e4 with h | ⟨q, h1, h2⟩
  ·exact .inl h
  ·exact .inr ⟨q, h1, by have := HS1.out; have := HS2.out; have := HS3.out; omega⟩
 ·exact ((HB5.out.setCell (Nat.le_trans HBASE.out (Nat.le_succ _)) _).setCell (Nat.le_trans HBASE.out (Nat.le_succ _)) _).setCell (Nat.le_trans HBASE.out (Nat.le_succ _)) _
end Go.Proofs.YtekmiepdodaidaaDoor.X
end

section
/- tickinglaw07.tame, by hand. -/
set_option linter.unusedVariables false
set_option linter.unusedSimpArgs false
namespace Go.Proofs.YtekmiepdodaidaaDoor.X
open Go.RowKit Go.Proofs.YtekmiepdodaidaaDoorW.PrintWords Go.Proofs.YtekmiepdodaidaaDoorW.PrintLast Go.Proofs.YtekmiepdodaidaaDoorW.PrintMore

theorem mod_n (x n : Int) (h : 1 ≤ n) (h2 : n ≤ 1000000) (w : World) : Calls Tryd.prog 34 #[.int .i64 x, .int .i64 n] w fun e w' => e = .returned (.int .i64 (modN x n)) ∧ Drawn0 w w' := tickinglaw07_mod.calls x n _ w (mod_eq x n h h2)
theorem at_n (A : Option Addr) (c : Nat) (l : List Int) (i : Nat) (w : World) (h : Kd.C (Kd.int .i64) w A l.length l) (hc : l.length ≤ c) : Calls Tryd.prog 35 #[.slice A l.length c, .int .i64 i] w fun e w' => e = .returned (.int .i64 (atN l i)) ∧ Drawn0 w w' := tickinglaw07_at.calls A c l i _ w h hc (at_eq l i)
def TamePost (a : List Int) (b : List (List Int)) (c : List Int) (w : World) (e : Ending) (w' : World) : Prop :=
 ∃ v0 v1 v2, e = .returned (.agg #[v0, v1, v2]) ∧ Kd.R (Kd.int .i64) 3 w' w.heap.size (fun k => some k ≠ v2.ownBlock) v0 (tameW a) ∧ Kd.R (Kd.slice 3 (Kd.int .i64)) 22 w' w.heap.size (fun k => some k ≠ v2.ownBlock) v1 (tameB a b) ∧ Kd.R (Kd.int .i64) 3 w' w.heap.size (fun k => some k ≠ v0.ownBlock) v2 (tameC b c) ∧ Below w.heap.size w w'
theorem tameN_eq (a : List Int) : wrap64 (1 + modN ((a.length : Int) - 1) 10) = (tameN a : Int) := by
 have := modN_in ((a.length : Int) - 1) 10 (by omega)
 unfold tameN wrap64
 omega
theorem range_take {α : Type} (f : Nat → α) (n k : Nat) (h : k < n) : ((List.range n).map f).take (k + 1) = ((List.range n).map f).take k ++ [f k] := by
 rw [List.take_succ_eq_append_getElem (by simpa using h)]; simp
theorem range_snoc {α : Type} (f : Nat → α) (k : Nat) : (List.range (k + 1)).map f = (List.range k).map f ++ [f k] := by rw [List.range_succ, List.map_append]; rfl
/-- A row that is being filled. -/
def rowFill (f : Nat → Int) (n i : Nat) : List Int := (List.range i).map f ++ List.replicate (n - i) 0
theorem rowFill_len (f : Nat → Int) {n i : Nat} (h : i ≤ n) : (rowFill f n i).length = n := by unfold rowFill; simp; omega
theorem rowFill_set (f : Nat → Int) {n i : Nat} (h : i < n) : (rowFill f n i).set i (f i) = rowFill f n (i + 1) := by
 unfold rowFill
 rw [range_snoc, List.set_append_right _ _ (by simp), show n - i = (n - (i + 1)) + 1 by omega, List.replicate_succ]
 simp
theorem rowFill_end (f : Nat → Int) (n : Nat) : rowFill f n n = (List.range n).map f := by unfold rowFill; simp
theorem row_put {W : World} {base g n cap i : Nat} {f : Nat → Int} (h : Kd.R (Kd.int .i64) 3 W base (fun _ => True) (.slice (some ⟨g, 0, none⟩) n cap) (rowFill f n i)) (hi : i < n) : Kd.R (Kd.int .i64) 3 (W.setCell ⟨g, i, none⟩ (.int .i64 (f i))) base (fun _ => True) (.slice (some ⟨g, 0, none⟩) n cap) (rowFill f n (i + 1)) := by
 have hrl := rowFill_len f (Nat.le_of_lt hi)
 have h2 : Kd.R (Kd.int .i64) 3 W base (fun _ => True) (.slice (some ⟨g, 0, none⟩) (rowFill f n i).length cap) (rowFill f n i) := by rw [hrl]; exact h
 have hput := (Kd.R_put (enc := Value.int .i64) (h1 := fun _ => rfl) h2 (i : Int) (f i)).1
 simp only [Int.toNat_natCast] at hput
 rw [rowFill_set f hi, hrl] at hput
 exact hput
/-- Where tame's variables lie. -/
structure TameAt (w : World) (A0 : Option Addr) (c0 : Nat) (a : List Int) (A1 : Option Addr) (c1 : Nat) (b : List (List Int)) (A2 : Option Addr) (c2 : Nat) (c : List Int) (u0 u1 u2 : Value) (w' : World) : Prop where
 b1 : w'.heap[w.heap.size]? = some (.cells #[.slice A0 a.length c0, .slice A1 b.length c1, .slice A2 c.length c2] 25 (0, 0))
 b2 : w'.heap[w.heap.size + 1]? = some (.cells #[.slice none 0 0, .slice none 0 0, .slice none 0 0] 25 (0, 0))
 b4 : w'.heap[w.heap.size + 1 + 1]? = some (.cells #[u0, u1, u2] 25 (0, 0))
 bl : Below w.heap.size w w'
theorem TameAt.below {w : World} {A0 : Option Addr} {c0 : Nat} {a : List Int} {A1 : Option Addr} {c1 : Nat} {b : List (List Int)} {A2 : Option Addr} {c2 : Nat} {c : List Int} {u0 u1 u2 : Value} {w' w2 : World} (h : TameAt w A0 c0 a A1 c1 b A2 c2 c u0 u1 u2 w') (hb : Below w'.heap.size w' w2) : TameAt w A0 c0 a A1 c1 b A2 c2 c u0 u1 u2 w2 :=
 ⟨blk_below h.b1 hb, blk_below h.b2 hb, blk_below h.b4 hb, below_step h.bl hb⟩
/-- append of one whole number, as an arm: 'at_builtin; refine (app_int ..) .. rfl rfl rfl rfl ?_'. -/
theorem app_int {w W : World} {base : Nat} {ok : Nat → Prop} {A : Option Addr} {c : Nat} {xs : List Int} {x : Int} (hr : Kd.R (Kd.int .i64) 3 W base ok (.slice A xs.length c) xs) (hB : Below base w W) (hbase : base ≤ W.heap.size) (hfresh : ∀ k, W.heap.size ≤ k → ok k) (hl : xs.length ≤ 1000000) (i j : Nat) (ops : Array Oper) (rest : List Oper) (o : Oper) (a : Act) (Q : Exit → Act → World → Prop)
  (hgd : o.guard = none) (ho : o.op = .call { callee := .builtin .append, args := #[.tmp i, .tmp j], argTypes := #[22, 22] }) (hs : a.eval (.tmp i) = .slice A xs.length c) (hx : a.eval (.tmp j) = .slice (some ⟨W.heap.size, 0, none⟩) 1 1)
  (h : ∀ A' c' w', Kd.R (Kd.int .i64) 3 w' base ok (.slice A' (xs.length + 1) c') (xs ++ [x]) → Below base w w' → W.grownBy w' (Value.slice A xs.length c).ownBlock → ((Value.slice A' (xs.length + 1) c').ownBlock = (Value.slice A xs.length c).ownBlock ∨ ∃ q, (Value.slice A' (xs.length + 1) c').ownBlock = some q ∧ W.heap.size ≤ q) → wpList Tryd.prog ops Q rest (a.put o.dst (.slice A' (xs.length + 1) c')) w') :
  wpList Tryd.prog ops Q (o :: rest) a (W.alloc (.cells #[.int .i64 x] 3)) := by
 refine Kd.R_append (Kd.int .i64) (w0 := w) base hgd (.tmp i) (.tmp j) 22 3 (.int .i64 0) 8 ho Tryd.underlying22 info3w rfl (by decide) (by omega) (.slice A xs.length c) xs x [.int .i64 x] ok (fun _ => False) hs hx rfl (fun _ h => h.elim) hfresh hr hB hbase (by omega) ?_
 intro v1 w1 ho hb hg hat
 obtain ⟨A', c', rfl⟩ := Kd.R_slice ho
 have e : (xs ++ [x]).length = xs.length + 1 := by simp
 rw [e] at ho hat ⊢
 exact h A' c' w1 ho hb hg hat
theorem tame_w (x : Int) : wrap64 (1 + modN x 100) = 1 + modN x 100 := by have := modN_in x 100 (by omega); unfold wrap64; omega
theorem tame_bit (i t : Nat) : Int.tmod ((i : Int) / 2 ^ t) 2 = ((i / 2 ^ t % 2 : Nat) : Int) := by
 have e : (i : Int) / 2 ^ t = ((i / 2 ^ t : Nat) : Int) := by simp
 rw [e, Int.tmod_eq_emod_of_nonneg (Int.natCast_nonneg _)]; omega
theorem tameX_lo {x : Int} (h : x < 1 ∨ x > 1000) : wrap64 (1 + modN x 1000) = tameX x := by
 have := modN_in x 1000 (by omega)
 unfold tameX
 rw [if_pos h]
 unfold wrap64; omega
theorem tameX_mid {x : Int} (h1 : ¬ x < 1) (h2 : ¬ x > 1000) : x = tameX x := by
 unfold tameX; rw [if_neg (by rintro (h | h); exact h1 h; exact h2 h)]
theorem tameS {w : World} {A0 : Option Addr} {c0 : Nat} {a : List Int} {A1 : Option Addr} {c1 : Nat} {b : List (List Int)} {A2 : Option Addr} {c2 : Nat} {c : List Int} {u0 u1 u2 : Value} {w' : World} (h : TameAt w A0 c0 a A1 c1 b A2 c2 c u0 u1 u2 w') :
  w'.cell? ⟨w.heap.size + 1 + 1, 0, none⟩ = some u0 ∧ w'.cell? ⟨w.heap.size + 1 + 1, 1, none⟩ = some u1 ∧ w'.cell? ⟨w.heap.size + 1 + 1, 2, none⟩ = some u2 ∧ w'.cell? ⟨w.heap.size, 2, none⟩ = some (.slice A2 c.length c2) :=
 ⟨(blk_cell h.b4 0).trans rfl, (blk_cell h.b4 1).trans rfl, (blk_cell h.b4 2).trans rfl, (blk_cell h.b1 2).trans rfl⟩
/-- What with leaves of the rest, and the three lists stored anew. -/
theorem tame_store {w : World} {A0 : Option Addr} {c0 : Nat} {a : List Int} {A1 : Option Addr} {c1 : Nat} {b : List (List Int)} {A2 : Option Addr} {c2 : Nat} {c : List Int} {u0 u1 u2 v1 v2 : Value} {w' w3 : World} {ws : List Int} {xs : List (List Int)} {p : List Int} {cs : List Int} {cost : Int}
  (HT : TameAt w A0 c0 a A1 c1 b A2 c2 c u0 u1 u2 w') (h0 : Kd.R (Kd.int .i64) 3 w' w.heap.size (fun k => some k ≠ u2.ownBlock) u0 ws) (h1 : Kd.R (Kd.slice 3 (Kd.int .i64)) 22 w' w.heap.size (fun k => True ∧ some k ≠ u2.ownBlock) u1 xs) (h2 : Kd.R (Kd.int .i64) 3 w' w.heap.size (fun k => some k ≠ u0.ownBlock) u2 cs)
  (hW : WithPost (Kd.slice 3 (Kd.int .i64)) w' w.heap.size u0 u1 u2 xs p cs cost (fun _ => True) (fun k => some k ≠ u0.ownBlock) v1 v2 w3) :
  TameAt w A0 c0 a A1 c1 b A2 c2 c u0 v1 v2 (((w3.setCell ⟨w.heap.size + 1 + 1, 0, none⟩ u0).setCell ⟨w.heap.size + 1 + 1, 1, none⟩ v1).setCell ⟨w.heap.size + 1 + 1, 2, none⟩ v2) ∧
  Kd.R (Kd.int .i64) 3 (((w3.setCell ⟨w.heap.size + 1 + 1, 0, none⟩ u0).setCell ⟨w.heap.size + 1 + 1, 1, none⟩ v1).setCell ⟨w.heap.size + 1 + 1, 2, none⟩ v2) w.heap.size (fun k => some k ≠ v2.ownBlock) u0 ws ∧
  Kd.R (Kd.slice 3 (Kd.int .i64)) 22 (((w3.setCell ⟨w.heap.size + 1 + 1, 0, none⟩ u0).setCell ⟨w.heap.size + 1 + 1, 1, none⟩ v1).setCell ⟨w.heap.size + 1 + 1, 2, none⟩ v2) w.heap.size (fun k => True ∧ some k ≠ v2.ownBlock) v1 (xs ++ [p]) ∧
  Kd.R (Kd.int .i64) 3 (((w3.setCell ⟨w.heap.size + 1 + 1, 0, none⟩ u0).setCell ⟨w.heap.size + 1 + 1, 1, none⟩ v1).setCell ⟨w.heap.size + 1 + 1, 2, none⟩ v2) w.heap.size (fun k => some k ≠ u0.ownBlock) v2 (cs ++ [cost]) := by
 have k1 := (hW.keep _ (blk_lt HT.b1) (Kd.R_ne h1 HT.b1 (by decide)) (Kd.R_ne h2 HT.b1 (by decide))).trans HT.b1
 have k2 := (hW.keep _ (blk_lt HT.b2) (Kd.R_ne h1 HT.b2 (by decide)) (Kd.R_ne h2 HT.b2 (by decide))).trans HT.b2
 have k4 := (hW.keep _ (blk_lt HT.b4) (Kd.R_ne h1 HT.b4 (by decide)) (Kd.R_ne h2 HT.b4 (by decide))).trans HT.b4
 have q0 : Kd.R (Kd.int .i64) 3 w3 w.heap.size (fun k => some k ≠ v2.ownBlock) u0 ws := by
  refine Kd.R_mono (Kd.R_step (Kd.R_tight rfl h0) (fun k hk hlt => hW.keep k hlt ?_ ?_)) (fun k hk => ?_)
  ·intro e
   obtain ⟨cl, hcl⟩ := Kd.R_typed h0 k hk.symm
   obtain ⟨cl2, hcl2⟩ := Kd.R_typed h1 k e.symm
   rw [hcl] at hcl2
   injection hcl2 with hcl2
   injection hcl2 with _ h _
   exact absurd h (by decide)
  ·exact h0.1 k hk.symm
  ·rcases hW.at2 with h | ⟨q, h, hq⟩
   ·rw [h]; exact h0.1 k hk.symm
   ·rw [h]
    intro e
    injection e with e
    have := Kd.R_lt h0 k hk.symm
    omega
 have g0 := blk_set k4 0 u0
 have g1 := blk_set g0 1 v1
 have hne1 : w.heap.size ≠ w.heap.size + 1 + 1 := by omega
 have hne2 : w.heap.size + 1 ≠ w.heap.size + 1 + 1 := by omega
 have hle : w.heap.size ≤ w.heap.size + 1 + 1 := by omega
 refine ⟨⟨blk_far (blk_far (blk_far k1 hne1 _) hne1 _) hne1 _, blk_far (blk_far (blk_far k2 hne2 _) hne2 _) hne2 _, (blk_set g1 2 v2).trans rfl, ((((HT.bl.trans hW.below).setCell hle _).setCell hle _).setCell hle _)⟩, ?_, ?_, ?_⟩
 ·exact Kd.R_set (Kd.R_set (Kd.R_set q0 k4 (by decide) 0 _) g0 (by decide) 1 _) g1 (by decide) 2 _
 ·exact Kd.R_set (Kd.R_set (Kd.R_set hW.r1 k4 (by decide) 0 _) g0 (by decide) 1 _) g1 (by decide) 2 _
 ·exact Kd.R_set (Kd.R_set (Kd.R_set hW.r2 k4 (by decide) 0 _) g0 (by decide) 1 _) g1 (by decide) 2 _
/-- A row made here, given to with. -/
theorem tame_with {w : World} {A0 : Option Addr} {c0 : Nat} {a : List Int} {A1 : Option Addr} {c1 : Nat} {b : List (List Int)} {A2 : Option Addr} {c2 : Nat} {c : List Int} {AU0 AU1 AU2 AR : Option Addr} {cu0 cu1 cu2 cr : Nat} {wo w' : World} {ws : List Int} {xs : List (List Int)} {p : List Int} {cs : List Int} (cost : Int)
  (HT : TameAt w A0 c0 a A1 c1 b A2 c2 c (.slice AU0 ws.length cu0) (.slice AU1 xs.length cu1) (.slice AU2 cs.length cu2) wo) (h0 : Kd.R (Kd.int .i64) 3 wo w.heap.size (fun k => some k ≠ (Value.slice AU2 cs.length cu2).ownBlock) (.slice AU0 ws.length cu0) ws) (h1 : Kd.R (Kd.slice 3 (Kd.int .i64)) 22 wo w.heap.size (fun k => True ∧ some k ≠ (Value.slice AU2 cs.length cu2).ownBlock) (.slice AU1 xs.length cu1) xs) (h2 : Kd.R (Kd.int .i64) 3 wo w.heap.size (fun k => some k ≠ (Value.slice AU0 ws.length cu0).ownBlock) (.slice AU2 cs.length cu2) cs)
  (hb : Below wo.heap.size wo w') (hp : Kd.R (Kd.int .i64) 3 w' wo.heap.size (fun _ => True) (.slice AR p.length cr) p) (hl1 : xs.length ≤ 1000000) (hl2 : cs.length ≤ 1000000) :
  Calls Tryd.prog 36 #[.agg #[.slice AU0 ws.length cu0, .slice AU1 xs.length cu1, .slice AU2 cs.length cu2], .slice AR p.length cr, .int .i64 cost] w' fun e w3 => ∃ v1 v2, e = .returned (.agg #[.slice AU0 ws.length cu0, v1, v2]) ∧ WithPost (Kd.slice 3 (Kd.int .i64)) w' w.heap.size (.slice AU0 ws.length cu0) (.slice AU1 xs.length cu1) (.slice AU2 cs.length cu2) xs p cs cost (fun _ => True) (fun k => some k ≠ (Value.slice AU0 ws.length cu0).ownBlock) v1 v2 w3 := by
 refine with_core (Kd.slice 3 (Kd.int .i64)) rfl (by decide) w' w.heap.size AU0 ws.length cu0 AU1 cu1 AU2 cu2 AR p.length cr xs p cs cost (fun _ => True) (fun k => some k ≠ (Value.slice AU0 ws.length cu0).ownBlock) (fun k => some k = (Value.slice AR p.length cr).ownBlock ∧ wo.heap.size ≤ k) (Kd.R_below h1 hb) ⟨_, rfl, ?_⟩ ?_ (Kd.R_below h2 hb) (fun _ _ => trivial) ?_ (Nat.le_trans HT.bl.size hb.size) hl1 hl2
 ·exact Kd.R_lower (Kd.R_mono (Kd.R_bound (Kd.R_tight rfl hp)) (fun k hk => ⟨hk.1, hk.2.1⟩)) HT.bl.size
 ·intro k hk
  refine ⟨⟨trivial, fun e => ?_⟩, fun e => ?_⟩
  ·have := Kd.R_lt h2 k e.symm; omega
  ·have := Kd.R_lt h1 k e.symm; omega
 ·intro k hk e
  have := Kd.R_lt h0 k e.symm
  have := hb.size
  omega
section
variable {A0 : Option Addr} {c0 : Nat} {a : List Int} {A1 : Option Addr} {c1 : Nat} {b : List (List Int)} {A2 : Option Addr} {c2 : Nat} {c : List Int} {w : World}
set_option maxHeartbeats 16000000 in
set_option maxRecDepth 100000 in
theorem tame_n (h : CaseAt w A0 c0 a A1 c1 b A2 c2 c) : Calls Tryd.prog 33 #[.agg #[.slice A0 a.length c0, .slice A1 b.length c1, .slice A2 c.length c2]] w (TamePost a b c w) := by
 have H := Aside0.mk h
 have hm0 := Kd.C_max h.r0
 obtain ⟨n, hn⟩ : ∃ n, n = tameN a := ⟨_, rfl⟩
 have HN := Aside0.mk hn
 have hn10 : n ≤ 10 := by rw [hn]; exact (tameN_in a).2
 have HTN := Aside0.mk (tameN_eq a)
 rw [← hn] at HTN
 clear h hn
 go_enter Tryd.func33, Tryd.ntmps33
 go_wp2_with (go_at_call 34; refine (mod_n _ 10 (by omega) (by omega) _).mono ?_; rintro e w' ⟨rfl, ⟨nd, rfl⟩⟩)
 rw [HTN.out]
 obtain ⟨w1, hw1⟩ : ∃ w1, w1 = (((w.alloc (.cells #[.slice A0 a.length c0, .slice A1 b.length c1, .slice A2 c.length c2] 25)).alloc (.cells #[.slice none 0 0, .slice none 0 0, .slice none 0 0] 25)).drewN nd).alloc (.cells #[.slice none 0 0, .slice none 0 0, .slice none 0 0] 25) := ⟨_, rfl⟩
 have HT0 := Aside0.mk (show TameAt w A0 c0 a A1 c1 b A2 c2 c (.slice none 0 0) (.slice none 0 0) (.slice none 0 0) w1 by
  rw [hw1]
  refine ⟨blk_alloc (blk_drewN (blk_alloc (blk_new w _) _) _) _, blk_alloc (blk_drewN ?_ _) _, ?_, below_alloc (pw_below_drewN (below_alloc (below_alloc (Below.refl _ _) _) _) _) _⟩
  ·have := blk_new (w.alloc (.cells #[.slice A0 a.length c0, .slice A1 b.length c1, .slice A2 c.length c2] 25)) (.cells #[.slice none 0 0, .slice none 0 0, .slice none 0 0] 25)
   rwa [size_alloc'] at this
  ·have := blk_new (((w.alloc (.cells #[.slice A0 a.length c0, .slice A1 b.length c1, .slice A2 c.length c2] 25)).alloc (.cells #[.slice none 0 0, .slice none 0 0, .slice none 0 0] 25)).drewN nd) (.cells #[.slice none 0 0, .slice none 0 0, .slice none 0 0] 25)
   rwa [show ((((w.alloc (.cells #[.slice A0 a.length c0, .slice A1 b.length c1, .slice A2 c.length c2] 25)).alloc (.cells #[.slice none 0 0, .slice none 0 0, .slice none 0 0] 25)).drewN nd).heap.size) = w.heap.size + 1 + 1 from by show (((w.alloc (.cells #[.slice A0 a.length c0, .slice A1 b.length c1, .slice A2 c.length c2] 25)).alloc (.cells #[.slice none 0 0, .slice none 0 0, .slice none 0 0] 25)).heap.size) = _; rw [size_alloc', size_alloc']] at this)
 rw [← hw1]
 clear hw1
 go_loopg [5] n (fun kq v5 w' => ∃ (k : Nat) (u : Value), v5 = .int .i64 k ∧ Aside0 (kq + k = n) ∧ Aside0 (TameAt w A0 c0 a A1 c1 b A2 c2 c u (.slice none 0 0) (.slice none 0 0) w') ∧ Aside0 (Kd.R (Kd.int .i64) 3 w' w.heap.size (fun _ => True) u ((tameW a).take k)))
 case atStart => exact ⟨0, .slice none 0 0, rfl, ⟨by omega⟩, HT0, ⟨Kd.R_nil _ _ _ _ _⟩⟩
 case round =>
  obtain ⟨k, u, rfl, HKQ, HT1, HR1⟩ := hrel
  obtain ⟨k1, rfl⟩ : ∃ k1, k1 = gk := ⟨_, rfl⟩
  obtain ⟨AU, cu, rfl⟩ := Kd.R_slice HR1.out
  obtain ⟨xs, hxs⟩ : ∃ xs, xs = (tameW a).take k := ⟨_, rfl⟩
  rw [← hxs] at HR1 HT1
  by_cases hk : k < n
  ·have HXS := Aside0.mk (show (tameW a).take (k + 1) = xs ++ [tameX (atN a k)] by rw [hxs]; unfold tameW; rw [range_take _ _ _ (by rw [← HN.out]; exact hk)])
   have HXL := Aside0.mk (show xs.length ≤ 10 by rw [hxs, List.length_take]; omega)
   have hz4 : wr.cell? ⟨w.heap.size + 1 + 1, 0, none⟩ = some (.slice AU xs.length cu) := (blk_cell HT1.out.b4 0).trans rfl
   have hz1 : wr.cell? ⟨w.heap.size, 0, none⟩ = some (.slice A0 a.length c0) := (blk_cell HT1.out.b1 0).trans rfl
   clear hxs
   go_upto_region 8 with (go_at_call 35; refine (at_n A0 c0 a k _ (Kd.C_below H.out.r0 HT1.out.bl) H.out.n0).mono ?_; rintro e w' ⟨rfl, ⟨nd, rfl⟩⟩)
   obtain ⟨w2, hw2⟩ : ∃ w2, w2 = wr.drewN nd := ⟨_, rfl⟩
   have HT2 := Aside0.mk (show TameAt w A0 c0 a A1 c1 b A2 c2 c (.slice AU xs.length cu) (.slice none 0 0) (.slice none 0 0) w2 by rw [hw2]; exact HT1.out.below (pw_below_drewN (Below.refl _ _) _))
   have HR2 := Aside0.mk (show Kd.R (Kd.int .i64) 3 w2 w.heap.size (fun _ => True) (.slice AU xs.length cu) xs by rw [hw2]; exact Kd.R_drewN HR1.out _)
   rw [← hw2]
   clear hw2
   obtain ⟨x, hx⟩ : ∃ x, x = atN a k := ⟨_, rfl⟩
   rw [← hx] at HXS ⊢
   clear hx
   by_cases hx1 : x < 1
   case' pos =>
    have hd1 : decide (x < 1) = true := decide_eq_true hx1
    have HX := Aside0.mk (tameX_lo (x := x) (.inl hx1))
    clear hx1
    go_upto_region 10 with (go_at_call 34; refine (mod_n x 1000 (by omega) (by omega) _).mono ?_; rintro e w' ⟨rfl, ⟨nd2, rfl⟩⟩)
    rw [HX.out]
    clear hd1
    have HT3 := Aside0.mk (HT2.out.below (pw_below_drewN (Below.refl _ _) nd2))
    have HR3 := Aside0.mk (Kd.R_drewN HR2.out nd2)
    generalize w2.drewN nd2 = w3 at HT3 HR3 ⊢
   case' neg =>
    have hd1 : decide (x < 1) = false := decide_eq_false hx1
    by_cases hx2 : x > 1000
    case' pos =>
     have hd2 : decide (1000 < x) = true := decide_eq_true hx2
     have HX := Aside0.mk (tameX_lo (x := x) (.inr hx2))
     clear hx1 hx2
     go_upto_region 10 with (go_at_call 34; refine (mod_n x 1000 (by omega) (by omega) _).mono ?_; rintro e w' ⟨rfl, ⟨nd2, rfl⟩⟩)
     rw [HX.out]
     clear hd1 hd2
     have HT3 := Aside0.mk (HT2.out.below (pw_below_drewN (Below.refl _ _) nd2))
     have HR3 := Aside0.mk (Kd.R_drewN HR2.out nd2)
     generalize w2.drewN nd2 = w3 at HT3 HR3 ⊢
    case' neg =>
     have hd2 : decide (1000 < x) = false := decide_eq_false hx2
     have HX := Aside0.mk (tameX_mid hx1 hx2)
     clear hx1 hx2
     go_upto_region 10 with (fail)
     rw [HX.out]
     have HT3 := HT2
     have HR3 := HR2
     generalize w2 = w3 at HT3 HR3 ⊢
   all_goals
    have KEY := Aside0.mk (app_int (x := tameX x) HR3.out HT3.out.bl HT3.out.bl.size (fun _ _ => trivial) (by have := HXL.out; omega) 40 42)
    have hz4 : w3.cell? ⟨w.heap.size + 1 + 1, 0, none⟩ = some (.slice AU xs.length cu) := (blk_cell HT3.out.b4 0).trans rfl
    go_wp2_with (at_builtin; refine KEY.out _ _ _ _ _ rfl rfl rfl rfl ?_; intro A5 c5 w5 ho hb hg hat; have HO5 := Aside0.mk ho; have HB5 := Aside0.mk hb; have HG1 := Aside0.mk (blk_grown HT3.out.b1 hg (Kd.R_ne HR3.out HT3.out.b1 (by decide))); have HG2 := Aside0.mk (blk_grown HT3.out.b2 hg (Kd.R_ne HR3.out HT3.out.b2 (by decide))); have g4 := blk_grown HT3.out.b4 hg (Kd.R_ne HR3.out HT3.out.b4 (by decide)); have HG4 := Aside0.mk g4; clear hz4; have hz5 : w5.cell? ⟨w.heap.size + 1 + 1, 0, none⟩ = some (.slice AU xs.length cu) := (blk_cell g4 0).trans rfl; have hf5 := blk_frozen g4 0; clear ho hb hg hat g4)
    clear hz5 hf5
    go_roundg (k1 - 1)
    case measure => have := HKQ.out; omega
    case rel =>
     refine ⟨k + 1, .slice A5 (xs.length + 1) c5, by go_num, ⟨by have := HKQ.out; omega⟩, ⟨⟨blk_far HG1.out (by show w.heap.size ≠ w.heap.size + 1 + 1; omega) _, blk_far HG2.out (by show w.heap.size + 1 ≠ w.heap.size + 1 + 1; omega) _, (blk_set HG4.out 0 _).trans rfl, HB5.out.setCell (by show w.heap.size ≤ w.heap.size + 1 + 1; omega) _⟩⟩, ⟨?_⟩⟩
     rw [HXS.out]
     exact Kd.R_set HO5.out HG4.out (by decide) 0 _
  ·obtain rfl : n = k := by have := HKQ.out; omega
   have hxs2 : xs = tameW a := by rw [hxs, HN.out, ← tameW_len]; exact List.take_length
   rw [hxs2] at HR1 HT1
   clear hxs hxs2
   go_wp2
   have HKB := Aside0.mk (show tameK b ≤ b.length from Nat.min_le_left _ _)
   have HK6 := Aside0.mk (show tameK b ≤ 6 from Nat.min_le_right _ _)
   clear HKQ
   go_loopg [8] (tameK b) (fun kq v8 w' => ∃ (t : Nat) (u0 u1 u2 : Value), v8 = .int .i64 t ∧ Aside0 (kq + t = tameK b) ∧ Aside0 (TameAt w A0 c0 a A1 c1 b A2 c2 c u0 u1 u2 w') ∧ Aside0 (Kd.R (Kd.int .i64) 3 w' w.heap.size (fun k => some k ≠ u2.ownBlock) u0 (tameW a)) ∧ Aside0 (Kd.R (Kd.slice 3 (Kd.int .i64)) 22 w' w.heap.size (fun k => True ∧ some k ≠ u2.ownBlock) u1 (tameB1 n b t)) ∧ Aside0 (Kd.R (Kd.int .i64) 3 w' w.heap.size (fun k => some k ≠ u0.ownBlock) u2 (tameC1 c t)))
   case atStart => exact ⟨0, _, .slice none 0 0, .slice none 0 0, rfl, ⟨by omega⟩, HT1, ⟨Kd.R_mono HR1.out (fun k _ => by simp [Value.ownBlock])⟩, ⟨Kd.R_nil _ _ _ _ _⟩, ⟨Kd.R_nil _ _ _ _ _⟩⟩
   case round =>
    clear HT1 HR1
    obtain ⟨t, u0, u1, u2, rfl, HKT, HTA, HU0, HU1, HU2⟩ := hrel
    obtain ⟨k2, rfl⟩ : ∃ k2, k2 = gk := ⟨_, rfl⟩
    obtain ⟨AU0, cu0, rfl⟩ := Kd.R_slice HU0.out
    obtain ⟨AU1, cu1, rfl⟩ := Kd.R_slice HU1.out
    obtain ⟨AU2, cu2, rfl⟩ := Kd.R_slice HU2.out
    have hz1 : wr.cell? ⟨w.heap.size, 1, none⟩ = some (.slice A1 b.length c1) := (blk_cell HTA.out.b1 1).trans rfl
    by_cases ht : t < tameK b
    ·have htb : t < b.length := by have := HKB.out; omega
     obtain ⟨ad1, cs1, e1, hcs1, hK1, hcc1⟩ := ReadsRow.get_ H.out.r1 [] (t : Int) (by omega) (by omega)
     obtain ⟨Ar, cr, rfl, hcr, hCr⟩ := hK1
     simp only [Int.toNat_natCast] at hcr hCr hcc1
     obtain ⟨row, hrow⟩ : ∃ row, b.getD t [] = row := ⟨_, rfl⟩
     rw [hrow] at hcr hCr hcc1
     have hcell1 := hcc1 0 _ rfl
     simp only [Nat.mul_one, Nat.add_zero, Kd.slice] at hcell1
     have HROW := Aside0.mk (show rd_L1 b (t : Int) = row by unfold rd_L1; rw [Int.toNat_natCast]; exact hrow)
     have HCR := Aside0.mk hCr
     have HCL := Aside0.mk hcr
     have HC1 := Aside0.mk hcell1
     have HC2 := Aside0.mk (show ∀ w', Below w.heap.size w w' → w'.cell? (ad1.add t) = some (.slice Ar row.length cr) from fun w' hb => pw_cell_below hb HC1.out)
     clear hcs1 hcc1 hrow hCr hcr hcell1
     cases e1
     have hmb := Kd.C_max H.out.r1
     have hd1 : decide (t < b.length) = true := decide_eq_true htb
     have hd2 : decide (t < 6) = true := decide_eq_true (by have := HK6.out; omega)
     have hd3 : decide ((t : Int) < 6) = true := decide_eq_true (by have := HK6.out; omega)
     have hn0 : (0 : Int) ≤ (n : Int) := by omega
     go_upto_region 15 with ((with_reducible refine gate_dst (N := 57) rfl ?_); refine Kd.R_make (Kd.int .i64) _ 3 rfl (N := 57) rfl 22 _ _ rfl (n : Int) rfl rfl Tryd.underlying22 (.int .i64 0) 8 info3w rfl (by decide) (by omega) 0 (ok := fun _ => True) (okp := fun _ => True) rfl (fun _ hk => hk) trivial hn0 (by simp only [Int.toNat_natCast]; omega) (Below.refl _ _) (Nat.le_refl _) ?_; intro v57 w3 ho hb hg_ hnew_; simp only [Int.toNat_natCast] at ho; have HO3 := Aside0.mk ho; have HB3 := Aside0.mk hb; clear ho hb hg_ hnew_)
     clear hz1 hd1 hd2 hd3
     obtain ⟨wo, rfl⟩ : ∃ wo : World, wo = wr := ⟨_, rfl⟩
     have hn1 : 1 ≤ n := by rw [HN.out]; exact (tameN_in a).1
     obtain ⟨g, n3, rfl, hgb, hgl, cells, hgc⟩ := Kd.R_form HO3.out (by simp; omega)
     have hln : (List.replicate n (0 : Int)).length = n := List.length_replicate ..
     rw [hln] at HO3 ⊢
     clear hln hgc cells hgl
     go_wp2
     go_loopg [10] n (fun kq v10 w' => ∃ i : Nat, v10 = .int .i64 i ∧ Aside0 (kq + i = n) ∧ Aside0 (Below wo.heap.size wo w') ∧ Aside0 (Kd.R (Kd.int .i64) 3 w' wo.heap.size (fun _ => True) (.slice (some ⟨g, 0, none⟩) n n3) (rowFill (fun i => modN (atN row i) 2) n i)))
     case atStart => exact ⟨0, rfl, ⟨by omega⟩, HB3, HO3⟩
     case round =>
      obtain ⟨i, rfl, HKI, HBI, HRI⟩ := hrel
      obtain ⟨k3, rfl⟩ : ∃ k3, k3 = gk := ⟨_, rfl⟩
      have HBW := Aside0.mk (below_step HTA.out.bl HBI.out)
      by_cases hi : i < n
      ·have hz1 : wr.cell? ⟨w.heap.size, 1, none⟩ = some (.slice (some ad1) b.length c1) := (blk_cell (HTA.out.below HBI.out).b1 1).trans rfl
       have hzr := HC2.out wr HBW.out
       have hrl := rowFill_len (fun i => modN (atN row i) 2) (Nat.le_of_lt hi)
       have hR := HRI.out
       rw [show (Value.slice (some ⟨g, 0, none⟩) n n3) = .slice (some ⟨g, 0, none⟩) (rowFill (fun i => modN (atN row i) 2) n i).length n3 from by rw [hrl]] at hR
       obtain ⟨hcw, hfw⟩ := Kd.R_cell (enc := Value.int .i64) (h1 := fun _ => rfl) (0 : Int) hR (i : Int) (by omega) (by rw [hrl]; omega)
       obtain ⟨x0, hx0⟩ : ∃ x0, rdOf (0 : Int) (rowFill (fun i => modN (atN row i) 2) n i) (i : Int) = x0 := ⟨_, rfl⟩
       rw [hx0] at hcw
       simp only [Int.toNat_natCast] at hcw hfw
       clear hR hrl hx0
       go_wp2_with (first | (go_at_call 35; refine (at_n Ar cr row i _ (Kd.C_below HCR.out HBW.out) HCL.out).mono ?_; rintro e w' ⟨rfl, ⟨nd1, rfl⟩⟩) | (go_at_call 34; refine (mod_n _ 2 (by omega) (by omega) _).mono ?_; rintro e w' ⟨rfl, ⟨nd2, rfl⟩⟩))
       clear hz1 hzr hcw hfw
       go_roundg (k3 - 1)
       case measure => have := HKI.out; omega
       case rel => exact ⟨i + 1, by go_num, ⟨by have := HKI.out; omega⟩, ⟨(pw_below_drewN HBI.out (nd1 + nd2)).setCell (show wo.heap.size ≤ (⟨g, i, none⟩ : Addr).block from hgb) _⟩, ⟨row_put (Kd.R_drewN HRI.out (nd1 + nd2)) hi⟩⟩
      ·obtain rfl : n = i := by have := HKI.out; omega
       have HRW := Aside0.mk (show Kd.R (Kd.int .i64) 3 wr wo.heap.size (fun _ => True) (.slice (some ⟨g, 0, none⟩) (tameRow n row).length n3) (tameRow n row) by
        have e := HRI.out
        rw [rowFill_end] at e
        have el : (tameRow n row).length = n := by unfold tameRow; simp
        rw [el]; exact e)
       clear HRI HKI
       go_upto_region 19 with (fail)
       have HT9 := Aside0.mk (HTA.out.below (below_drew HBI.out))
       refine start_ (n := 11) (S := fun w' => w'.cell? ⟨w.heap.size + 1 + 1, 0, none⟩ = some (.slice AU0 (tameW a).length cu0) ∧ w'.cell? ⟨w.heap.size + 1 + 1, 1, none⟩ = some (.slice AU1 (tameB1 n b t).length cu1) ∧ w'.cell? ⟨w.heap.size + 1 + 1, 2, none⟩ = some (.slice AU2 (tameC1 c t).length cu2) ∧ w'.cell? ⟨w.heap.size, 2, none⟩ = some (.slice A2 c.length c2)) (ds := [10]) #[false, false, false, false, false, false, false, false, false, false, false] (by kernel_rfl) rfl rfl (tameS HT9.out) (fun hHeld => ?_)
       refine pure_ (i := 1) (N := (some 75)) (v := ?_) (a' := ?_) #[false, true, false, false, false, false, false, false, false, false, false] rfl rfl (by kernel_rfl) (fun _ _ _ h => h) (Or.inl ⟨by rfl, ?_⟩) ?_ ?_
       rotate_left
       ·intro w'
        go_simp
        with_reducible rfl
       rotate_left
       ·simp only [Act.put, List.setIfInBounds_toArray, List.set_cons_zero, List.set_cons_succ, i64_w, i32_w]
        rfl
       refine pure_ (i := 2) (N := (some 76)) (v := ?_) (a' := ?_) #[false, true, true, false, false, false, false, false, false, false, false] rfl rfl (by kernel_rfl) (fun _ _ _ h => h) (Or.inl ⟨by rfl, ?_⟩) ?_ ?_
       rotate_left
       ·intro w'
        go_simp
        with_reducible rfl
       rotate_left
       ·simp only [Act.put, List.setIfInBounds_toArray, List.set_cons_zero, List.set_cons_succ, i64_w, i32_w]
        rfl
       refine pure_ (i := 4) (N := (some 78)) (v := ?_) (a' := ?_) #[false, true, true, false, true, false, false, false, false, false, false] rfl rfl (by kernel_rfl) (fun _ _ _ h => h) (Or.inl ⟨by rfl, ?_⟩) ?_ ?_
       rotate_left
       ·intro w'
        go_simp
        with_reducible rfl
       rotate_left
       ·simp only [Act.put, List.setIfInBounds_toArray, List.set_cons_zero, List.set_cons_succ, i64_w, i32_w]
        rfl
       refine take_ (i := 0) (N := (some 74)) (v := ?_) (a' := ?_) #[true, true, true, false, true, false, false, false, false, false, false] rfl rfl (by kernel_rfl) (fun _ _ _ h => h) (Or.inl ⟨by rfl, ?_⟩) hHeld ?_ ?_
       rotate_left
       ·rintro w' ⟨s0, s1, s2, s3⟩
        go_simp
        with_reducible rfl
       rotate_left
       ·simp only [Act.put, List.setIfInBounds_toArray, List.set_cons_zero, List.set_cons_succ, i64_w, i32_w]
        rfl
       refine take_ (i := 3) (N := (some 77)) (v := ?_) (a' := ?_) #[true, true, true, true, true, false, false, false, false, false, false] rfl rfl (by kernel_rfl) (fun _ _ _ h => h) (Or.inl ⟨by rfl, ?_⟩) hHeld ?_ ?_
       rotate_left
       ·rintro w' ⟨s0, s1, s2, s3⟩
        go_simp
        with_reducible rfl
       rotate_left
       ·simp only [Act.put, List.setIfInBounds_toArray, List.set_cons_zero, List.set_cons_succ, i64_w, i32_w]
        rfl
       refine one_ (i := 5) (N := (some 79)) #[true, true, true, true, true, true, false, false, false, false, false] rfl rfl (by kernel_rfl) (by decide) (fun K hK => ?_)
       refine goes_ Tryd.func35 (by kernel_rfl) rfl #[.slice A2 c.length c2, .int .i64 (t : Int)] (by rfl) rfl rfl (by (try simp only [List.map_toArray, List.map_cons, List.map_nil]); first | done | rfl) ?_
       refine (at_n A2 c2 c t _ (Kd.C_below H.out.r2 HT9.out.bl) H.out.n2).mono ?_
       rintro e w' ⟨rfl, ⟨nd1, rfl⟩⟩
       refine ⟨_, rfl, ?_⟩
       refine hK.out _ _ (tameS (HT9.out.below (pw_below_drewN (Below.refl _ _) _))) (fun hHeld => ?_)
       clear hK K
       refine norm_ (a' := ?_) ?_ ?_
       rotate_left
       ·show Act.put _ (some 79) _ = _
        simp only [Act.put, List.setIfInBounds_toArray, List.set_cons_zero, List.set_cons_succ, i64_w, i32_w]
        rfl
       refine pure_ (i := 6) (N := (some 80)) (v := ?_) (a' := ?_) #[true, true, true, true, true, true, true, false, false, false, false] rfl rfl (by kernel_rfl) (fun _ _ _ h => h) (Or.inl ⟨by rfl, ?_⟩) ?_ ?_
       rotate_left
       ·intro w'
        go_simp
        with_reducible rfl
       rotate_left
       ·simp only [Act.put, List.setIfInBounds_toArray, List.set_cons_zero, List.set_cons_succ, i64_w, i32_w]
        rfl
       refine one_ (i := 7) (N := (some 81)) #[true, true, true, true, true, true, true, true, false, false, false] rfl rfl (by kernel_rfl) (by decide) (fun K hK => ?_)
       refine goes_ Tryd.func34 (by kernel_rfl) rfl #[.int .i64 (wrap64 (atN c t - 1)), .int .i64 100] (by rfl) rfl rfl (by (try simp only [List.map_toArray, List.map_cons, List.map_nil]); first | done | rfl) ?_
       refine (mod_n _ 100 (by omega) (by omega) _).mono ?_
       rintro e w' ⟨rfl, ⟨nd2, rfl⟩⟩
       refine ⟨_, rfl, ?_⟩
       refine hK.out _ _ (tameS (HT9.out.below (pw_below_drewN (pw_below_drewN (Below.refl _ _) nd1) nd2))) (fun hHeld => ?_)
       clear hK K
       refine norm_ (a' := ?_) ?_ ?_
       rotate_left
       ·show Act.put _ (some 81) _ = _
        simp only [Act.put, List.setIfInBounds_toArray, List.set_cons_zero, List.set_cons_succ, i64_w, i32_w]
        rfl
       refine pure_ (i := 8) (N := (some 82)) (v := ?_) (a' := ?_) #[true, true, true, true, true, true, true, true, true, false, false] rfl rfl (by kernel_rfl) (fun _ _ _ h => h) (Or.inl ⟨by rfl, ?_⟩) ?_ ?_
       rotate_left
       ·intro w'
        go_simp
        with_reducible rfl
       rotate_left
       ·simp only [Act.put, List.setIfInBounds_toArray, List.set_cons_zero, List.set_cons_succ, i64_w, i32_w]
        rfl
       refine one_ (i := 9) (N := (some 83)) #[true, true, true, true, true, true, true, true, true, true, false] rfl rfl (by kernel_rfl) (by decide) (fun K hK => ?_)
       refine goes_ Tryd.func36 (by kernel_rfl) rfl #[.agg #[.slice AU0 (tameW a).length cu0, .slice AU1 (tameB1 n b t).length cu1, .slice AU2 (tameC1 c t).length cu2], .slice (some ⟨g, 0, none⟩) n n3, .int .i64 (wrap64 (1 + modN (wrap64 (atN c t - 1)) 100))] (by rfl) rfl rfl (by (try simp only [List.map_toArray, List.map_cons, List.map_nil]); first | done | rfl) ?_
       have hel : (tameRow n row).length = n := by unfold tameRow; simp
       have HBD := Aside0.mk (show Below wo.heap.size wo ((wr.drew.drewN nd1).drewN nd2) from pw_below_drewN (pw_below_drewN (below_drew HBI.out) nd1) nd2)
       have hrw := Kd.R_drewN (Kd.R_drewN (Kd.R_drew HRW.out) nd1) nd2
       rw [hel] at hrw
       have HRD := Aside0.mk hrw
       clear hrw
       generalize (wr.drew.drewN nd1).drewN nd2 = w5 at HBD HRD ⊢
       have hwt := tame_with (wrap64 (1 + modN (wrap64 (atN c t - 1)) 100)) HTA.out HU0.out HU1.out HU2.out HBD.out (p := tameRow n row) (AR := some ⟨g, 0, none⟩) (cr := n3) (by rw [hel]; exact HRD.out) (by unfold tameB1; simp; have := HK6.out; omega) (by unfold tameC1; simp; have := HK6.out; omega)
       rw [hel] at hwt
       refine hwt.mono ?_
       clear hwt
       rintro e w6 ⟨v1, v2, rfl, hwp⟩
       have hst := tame_store (HTA.out.below HBD.out) (Kd.R_below HU0.out HBD.out) (Kd.R_below HU1.out HBD.out) (Kd.R_below HU2.out HBD.out) hwp
       have HST := Aside0.mk hst
       have k4 := (hwp.keep _ (blk_lt (HTA.out.below HBD.out).b4) (Kd.R_ne (Kd.R_below HU1.out HBD.out) (HTA.out.below HBD.out).b4 (by decide)) (Kd.R_ne (Kd.R_below HU2.out HBD.out) (HTA.out.below HBD.out).b4 (by decide))).trans (HTA.out.below HBD.out).b4
       have k1 := (hwp.keep _ (blk_lt (HTA.out.below HBD.out).b1) (Kd.R_ne (Kd.R_below HU1.out HBD.out) (HTA.out.below HBD.out).b1 (by decide)) (Kd.R_ne (Kd.R_below HU2.out HBD.out) (HTA.out.below HBD.out).b1 (by decide))).trans (HTA.out.below HBD.out).b1
       have HK4 := Aside0.mk k4
       have HK1 := Aside0.mk k1
       obtain ⟨AV1, cv1, rfl⟩ := Kd.R_slice hwp.r1
       obtain ⟨AV2, cv2, rfl⟩ := Kd.R_slice hwp.r2
       obtain ⟨m1, hm1⟩ : ∃ m1, m1 = (tameB1 n b t ++ [tameRow n row]).length := ⟨_, rfl⟩
       obtain ⟨m2, hm2⟩ : ∃ m2, m2 = (tameC1 c t ++ [wrap64 (1 + modN (wrap64 (atN c t - 1)) 100)]).length := ⟨_, rfl⟩
       rw [← hm1, ← hm2] at HST
       rw [← hm1, ← hm2]
       clear hst k4 k1 hwp hm1 hm2
       refine ⟨_, rfl, ?_⟩
       refine hK.out _ _ ⟨(blk_cell HK4.out 0).trans rfl, (blk_cell HK4.out 1).trans rfl, (blk_cell HK4.out 2).trans rfl, (blk_cell HK1.out 2).trans rfl⟩ (fun hHeld => ?_)
       clear hK K
       refine norm_ (a' := ?_) ?_ ?_
       rotate_left
       ·show Act.put _ (some 83) _ = _
        simp only [Act.put, List.setIfInBounds_toArray, List.set_cons_zero, List.set_cons_succ, i64_w, i32_w]
        rfl
       refine last_ (i := 10) (N := none) #[true, true, true, true, true, true, true, true, true, true, true] rfl rfl (by kernel_rfl) (by decide) (fun K hK => ?_)
       have hs0 : w6.cell? ⟨w.heap.size + 1 + 1, 0, none⟩ = some (.slice AU0 (tameW a).length cu0) := (blk_cell HK4.out 0).trans rfl
       have hs1 : w6.cell? ⟨w.heap.size + 1 + 1, 1, none⟩ = some (.slice AU1 (tameB1 n b t).length cu1) := (blk_cell HK4.out 1).trans rfl
       have hs2 : w6.cell? ⟨w.heap.size + 1 + 1, 2, none⟩ = some (.slice AU2 (tameC1 c t).length cu2) := (blk_cell HK4.out 2).trans rfl
       have hf0 := blk_frozen HK4.out 0
       have hf1 := blk_frozen HK4.out 1
       have hf2 := blk_frozen HK4.out 2
       refine skip_ (w1 := ?_) (by rfl) rfl ?_ ?_
       rotate_left
       ·go_simp
        rfl
       refine hK.out _ _ ?_
       clear hK K
       clear hs0 hs1 hs2 hf0 hf1 hf2
       refine done_ (by kernel_rfl) ?_
       go_wp2
       go_roundg (k2 - 1)
       case measure => have := HKT.out; omega
       case rel =>
        have e1 : tameB1 n b (t + 1) = tameB1 n b t ++ [tameRow n row] := by unfold tameB1; rw [range_snoc, HROW.out]
        have e2 : tameC1 c (t + 1) = tameC1 c t ++ [wrap64 (1 + modN (wrap64 (atN c t - 1)) 100)] := by unfold tameC1; rw [range_snoc, tame_w]
        refine ⟨t + 1, _, _, _, by go_num, ⟨by have := HKT.out; omega⟩, ⟨HST.out.1⟩, ⟨HST.out.2.1⟩, ⟨?_⟩, ⟨?_⟩⟩
        ·rw [e1]; exact HST.out.2.2.1
        ·rw [e2]; exact HST.out.2.2.2
    ·obtain rfl : t = tameK b := by have := HKT.out; omega
     have hend : (b.length ≤ tameK b) ∨ (tameK b < b.length ∧ 6 ≤ tameK b) := by unfold tameK; omega
     rcases hend with hend | ⟨hend, hend2⟩
     case' inl =>
      have hd1 : decide (tameK b < b.length) = false := decide_eq_false (by omega)
      go_wp2
     case' inr =>
      have hd1 : decide (tameK b < b.length) = true := decide_eq_true hend
      have hd2 : decide (tameK b < 6) = false := decide_eq_false (by omega)
      have hd3 : decide ((tameK b : Int) < 6) = false := decide_eq_false (by omega)
      go_wp2
     all_goals
      clear hz1 HKT
      obtain ⟨B1, hB1⟩ : ∃ B1, B1 = tameB1 n b (tameK b) := ⟨_, rfl⟩
      obtain ⟨C1, hC1⟩ : ∃ C1, C1 = tameC1 c (tameK b) := ⟨_, rfl⟩
      rw [← hB1] at HU1 HTA
      rw [← hC1] at HU0 HU1 HU2 HTA
      have HB1 := Aside0.mk hB1
      have HC1 := Aside0.mk hC1
      have HBL := Aside0.mk (show B1.length ≤ 6 by rw [hB1]; unfold tameB1; simp; exact HK6.out)
      have HCLn := Aside0.mk (show C1.length ≤ 6 by rw [hC1]; unfold tameC1; simp; exact HK6.out)
      clear hB1 hC1
      go_loopg [11] 4 (fun kq v11 w' => ∃ (t : Nat) (u0 u1 u2 : Value), v11 = .int .i64 t ∧ Aside0 (kq + t = 4) ∧ Aside0 (TameAt w A0 c0 a A1 c1 b A2 c2 c u0 u1 u2 w') ∧ Aside0 (Kd.R (Kd.int .i64) 3 w' w.heap.size (fun k => some k ≠ u2.ownBlock) u0 (tameW a)) ∧ Aside0 (Kd.R (Kd.slice 3 (Kd.int .i64)) 22 w' w.heap.size (fun k => True ∧ some k ≠ u2.ownBlock) u1 (B1 ++ tameB2 n t)) ∧ Aside0 (Kd.R (Kd.int .i64) 3 w' w.heap.size (fun k => some k ≠ u0.ownBlock) u2 (C1 ++ tameC2 c t)))
      case atStart => exact ⟨0, _, _, _, rfl, ⟨by omega⟩, HTA, HU0, ⟨by rw [show B1 ++ tameB2 n 0 = B1 from List.append_nil _]; exact HU1.out⟩, ⟨by rw [show C1 ++ tameC2 c 0 = C1 from List.append_nil _]; exact HU2.out⟩⟩
      case round =>
       clear HTA HU0 HU1 HU2
       obtain ⟨t, u0, u1, u2, rfl, HKT, HTA, HU0, HU1, HU2⟩ := hrel
       obtain ⟨k2, rfl⟩ : ∃ k2, k2 = gk := ⟨_, rfl⟩
       obtain ⟨AU0, cu0, rfl⟩ := Kd.R_slice HU0.out
       obtain ⟨AU1, cu1, rfl⟩ := Kd.R_slice HU1.out
       obtain ⟨AU2, cu2, rfl⟩ := Kd.R_slice HU2.out
       obtain ⟨Bt, hBt⟩ : ∃ Bt, Bt = B1 ++ tameB2 n t := ⟨_, rfl⟩
       obtain ⟨Ct, hCt⟩ : ∃ Ct, Ct = C1 ++ tameC2 c t := ⟨_, rfl⟩
       rw [← hBt] at HU1 HTA
       rw [← hCt] at HU0 HU1 HU2 HTA
       by_cases ht : t < 4
       ·have HBT := Aside0.mk (show B1 ++ tameB2 n (t + 1) = Bt ++ [tameBit n t] by rw [hBt]; unfold tameB2; rw [range_snoc, List.append_assoc])
        have HCT := Aside0.mk (show C1 ++ tameC2 c (t + 1) = Ct ++ [wrap64 (1 + modN (atN c t) 100)] by rw [hCt]; unfold tameC2; rw [range_snoc, List.append_assoc, tame_w])
        have HBTL := Aside0.mk (show Bt.length ≤ 10 by rw [hBt]; unfold tameB2; simp; have := HBL.out; omega)
        have HCTL := Aside0.mk (show Ct.length ≤ 10 by rw [hCt]; unfold tameC2; simp; have := HCLn.out; omega)
        clear hBt hCt
        have hd1 : decide (t < 4) = true := decide_eq_true ht
        have hd3 : decide ((t : Int) < 4) = true := decide_eq_true (by omega)
        have hn0 : (0 : Int) ≤ (n : Int) := by omega
        go_upto_region 24 with ((with_reducible refine gate_dst (N := 89) rfl ?_); refine Kd.R_make (Kd.int .i64) _ 3 rfl (N := 89) rfl 22 _ _ rfl (n : Int) rfl rfl Tryd.underlying22 (.int .i64 0) 8 info3w rfl (by decide) (by omega) 0 (ok := fun _ => True) (okp := fun _ => True) rfl (fun _ hk => hk) trivial hn0 (by simp only [Int.toNat_natCast]; omega) (Below.refl _ _) (Nat.le_refl _) ?_; intro v57 w3 ho hb hg_ hnew_; simp only [Int.toNat_natCast] at ho; have HO3 := Aside0.mk ho; have HB3 := Aside0.mk hb; clear ho hb hg_ hnew_)
        clear hd1 hd3
        obtain ⟨wo, rfl⟩ : ∃ wo : World, wo = wr := ⟨_, rfl⟩
        have hn1 : 1 ≤ n := by rw [HN.out]; exact (tameN_in a).1
        obtain ⟨g, n3, rfl, hgb, hgl, cells, hgc⟩ := Kd.R_form HO3.out (by simp; omega)
        have hln : (List.replicate n (0 : Int)).length = n := List.length_replicate ..
        rw [hln] at HO3 ⊢
        clear hln hgc cells hgl
        go_wp2
        go_loopg [13] n (fun kq v13 w' => ∃ i : Nat, v13 = .int .i64 i ∧ Aside0 (kq + i = n) ∧ Aside0 (Below wo.heap.size wo w') ∧ Aside0 (Kd.R (Kd.int .i64) 3 w' wo.heap.size (fun _ => True) (.slice (some ⟨g, 0, none⟩) n n3) (rowFill (fun i => ((i / 2 ^ t % 2 : Nat) : Int)) n i)))
        case atStart => exact ⟨0, rfl, ⟨by omega⟩, HB3, HO3⟩
        case round =>
         obtain ⟨i, rfl, HKI, HBI, HRI⟩ := hrel
         obtain ⟨k3, rfl⟩ : ∃ k3, k3 = gk := ⟨_, rfl⟩
         by_cases hi : i < n
         ·have hrl := rowFill_len (fun i => ((i / 2 ^ t % 2 : Nat) : Int)) (Nat.le_of_lt hi)
          have hR := HRI.out
          rw [show (Value.slice (some ⟨g, 0, none⟩) n n3) = .slice (some ⟨g, 0, none⟩) (rowFill (fun i => ((i / 2 ^ t % 2 : Nat) : Int)) n i).length n3 from by rw [hrl]] at hR
          obtain ⟨hcw, hfw⟩ := Kd.R_cell (enc := Value.int .i64) (h1 := fun _ => rfl) (0 : Int) hR (i : Int) (by omega) (by rw [hrl]; omega)
          obtain ⟨x0, hx0⟩ : ∃ x0, rdOf (0 : Int) (rowFill (fun i => ((i / 2 ^ t % 2 : Nat) : Int)) n i) (i : Int) = x0 := ⟨_, rfl⟩
          rw [hx0] at hcw
          simp only [Int.toNat_natCast] at hcw hfw
          have HBIT := Aside0.mk (tame_bit i t)
          clear hR hrl hx0
          have ht0 : (0 : Int) ≤ (t : Int) := by omega
          go_wp2
          rw [HBIT.out]
          clear hcw hfw ht0
          go_roundg (k3 - 1)
          case measure => have := HKI.out; omega
          case rel => exact ⟨i + 1, by go_num, ⟨by have := HKI.out; omega⟩, ⟨HBI.out.setCell (show wo.heap.size ≤ (⟨g, i, none⟩ : Addr).block from hgb) _⟩, ⟨row_put HRI.out hi⟩⟩
         ·obtain rfl : n = i := by have := HKI.out; omega
          have HRW := Aside0.mk (show Kd.R (Kd.int .i64) 3 wr wo.heap.size (fun _ => True) (.slice (some ⟨g, 0, none⟩) (tameBit n t).length n3) (tameBit n t) by
           have e := HRI.out
           rw [rowFill_end] at e
           have el : (tameBit n t).length = n := by unfold tameBit; simp
           rw [el]; exact e)
          clear HRI HKI
          go_upto_region 28 with (fail)
          have HT9 := Aside0.mk (HTA.out.below (below_drew HBI.out))
          refine start_ (n := 10) (S := fun w' => w'.cell? ⟨w.heap.size + 1 + 1, 0, none⟩ = some (.slice AU0 (tameW a).length cu0) ∧ w'.cell? ⟨w.heap.size + 1 + 1, 1, none⟩ = some (.slice AU1 Bt.length cu1) ∧ w'.cell? ⟨w.heap.size + 1 + 1, 2, none⟩ = some (.slice AU2 Ct.length cu2) ∧ w'.cell? ⟨w.heap.size, 2, none⟩ = some (.slice A2 c.length c2)) (ds := [9]) #[false, false, false, false, false, false, false, false, false, false] (by kernel_rfl) rfl rfl (tameS HT9.out) (fun hHeld => ?_)
          refine pure_ (i := 1) (N := (some 103)) (v := ?_) (a' := ?_) #[false, true, false, false, false, false, false, false, false, false] rfl rfl (by kernel_rfl) (fun _ _ _ h => h) (Or.inl ⟨by rfl, ?_⟩) ?_ ?_
          rotate_left
          ·intro w'
           go_simp
           with_reducible rfl
          rotate_left
          ·simp only [Act.put, List.setIfInBounds_toArray, List.set_cons_zero, List.set_cons_succ, i64_w, i32_w]
           rfl
          refine pure_ (i := 2) (N := (some 104)) (v := ?_) (a' := ?_) #[false, true, true, false, false, false, false, false, false, false] rfl rfl (by kernel_rfl) (fun _ _ _ h => h) (Or.inl ⟨by rfl, ?_⟩) ?_ ?_
          rotate_left
          ·intro w'
           go_simp
           with_reducible rfl
          rotate_left
          ·simp only [Act.put, List.setIfInBounds_toArray, List.set_cons_zero, List.set_cons_succ, i64_w, i32_w]
           rfl
          refine pure_ (i := 4) (N := (some 106)) (v := ?_) (a' := ?_) #[false, true, true, false, true, false, false, false, false, false] rfl rfl (by kernel_rfl) (fun _ _ _ h => h) (Or.inl ⟨by rfl, ?_⟩) ?_ ?_
          rotate_left
          ·intro w'
           go_simp
           with_reducible rfl
          rotate_left
          ·simp only [Act.put, List.setIfInBounds_toArray, List.set_cons_zero, List.set_cons_succ, i64_w, i32_w]
           rfl
          refine take_ (i := 0) (N := (some 102)) (v := ?_) (a' := ?_) #[true, true, true, false, true, false, false, false, false, false] rfl rfl (by kernel_rfl) (fun _ _ _ h => h) (Or.inl ⟨by rfl, ?_⟩) hHeld ?_ ?_
          rotate_left
          ·rintro w' ⟨s0, s1, s2, s3⟩
           go_simp
           with_reducible rfl
          rotate_left
          ·simp only [Act.put, List.setIfInBounds_toArray, List.set_cons_zero, List.set_cons_succ, i64_w, i32_w]
           rfl
          refine take_ (i := 3) (N := (some 105)) (v := ?_) (a' := ?_) #[true, true, true, true, true, false, false, false, false, false] rfl rfl (by kernel_rfl) (fun _ _ _ h => h) (Or.inl ⟨by rfl, ?_⟩) hHeld ?_ ?_
          rotate_left
          ·rintro w' ⟨s0, s1, s2, s3⟩
           go_simp
           with_reducible rfl
          rotate_left
          ·simp only [Act.put, List.setIfInBounds_toArray, List.set_cons_zero, List.set_cons_succ, i64_w, i32_w]
           rfl
          refine one_ (i := 5) (N := (some 107)) #[true, true, true, true, true, true, false, false, false, false] rfl rfl (by kernel_rfl) (by decide) (fun K hK => ?_)
          refine goes_ Tryd.func35 (by kernel_rfl) rfl #[.slice A2 c.length c2, .int .i64 (t : Int)] (by rfl) rfl rfl (by (try simp only [List.map_toArray, List.map_cons, List.map_nil]); first | done | rfl) ?_
          refine (at_n A2 c2 c t _ (Kd.C_below H.out.r2 HT9.out.bl) H.out.n2).mono ?_
          rintro e w' ⟨rfl, ⟨nd1, rfl⟩⟩
          refine ⟨_, rfl, ?_⟩
          refine hK.out _ _ (tameS (HT9.out.below (pw_below_drewN (Below.refl _ _) _))) (fun hHeld => ?_)
          clear hK K
          refine norm_ (a' := ?_) ?_ ?_
          rotate_left
          ·show Act.put _ (some 107) _ = _
           simp only [Act.put, List.setIfInBounds_toArray, List.set_cons_zero, List.set_cons_succ, i64_w, i32_w]
           rfl
          refine one_ (i := 6) (N := (some 108)) #[true, true, true, true, true, true, true, false, false, false] rfl rfl (by kernel_rfl) (by decide) (fun K hK => ?_)
          refine goes_ Tryd.func34 (by kernel_rfl) rfl #[.int .i64 (atN c t), .int .i64 100] (by rfl) rfl rfl (by (try simp only [List.map_toArray, List.map_cons, List.map_nil]); first | done | rfl) ?_
          refine (mod_n _ 100 (by omega) (by omega) _).mono ?_
          rintro e w' ⟨rfl, ⟨nd2, rfl⟩⟩
          refine ⟨_, rfl, ?_⟩
          refine hK.out _ _ (tameS (HT9.out.below (pw_below_drewN (pw_below_drewN (Below.refl _ _) nd1) nd2))) (fun hHeld => ?_)
          clear hK K
          refine norm_ (a' := ?_) ?_ ?_
          rotate_left
          ·show Act.put _ (some 108) _ = _
           simp only [Act.put, List.setIfInBounds_toArray, List.set_cons_zero, List.set_cons_succ, i64_w, i32_w]
           rfl
          refine pure_ (i := 7) (N := (some 109)) (v := ?_) (a' := ?_) #[true, true, true, true, true, true, true, true, false, false] rfl rfl (by kernel_rfl) (fun _ _ _ h => h) (Or.inl ⟨by rfl, ?_⟩) ?_ ?_
          rotate_left
          ·intro w'
           go_simp
           with_reducible rfl
          rotate_left
          ·simp only [Act.put, List.setIfInBounds_toArray, List.set_cons_zero, List.set_cons_succ, i64_w, i32_w]
           rfl
          refine one_ (i := 8) (N := (some 110)) #[true, true, true, true, true, true, true, true, true, false] rfl rfl (by kernel_rfl) (by decide) (fun K hK => ?_)
          refine goes_ Tryd.func36 (by kernel_rfl) rfl #[.agg #[.slice AU0 (tameW a).length cu0, .slice AU1 Bt.length cu1, .slice AU2 Ct.length cu2], .slice (some ⟨g, 0, none⟩) n n3, .int .i64 (wrap64 (1 + modN (atN c t) 100))] (by rfl) rfl rfl (by (try simp only [List.map_toArray, List.map_cons, List.map_nil]); first | done | rfl) ?_
          have hel : (tameBit n t).length = n := by unfold tameBit; simp
          have HBD := Aside0.mk (show Below wo.heap.size wo ((wr.drew.drewN nd1).drewN nd2) from pw_below_drewN (pw_below_drewN (below_drew HBI.out) nd1) nd2)
          have hrw := Kd.R_drewN (Kd.R_drewN (Kd.R_drew HRW.out) nd1) nd2
          rw [hel] at hrw
          have HRD := Aside0.mk hrw
          clear hrw
          generalize (wr.drew.drewN nd1).drewN nd2 = w5 at HBD HRD ⊢
          have hwt := tame_with (wrap64 (1 + modN (atN c t) 100)) HTA.out HU0.out HU1.out HU2.out HBD.out (p := tameBit n t) (AR := some ⟨g, 0, none⟩) (cr := n3) (by rw [hel]; exact HRD.out) (by have := HBTL.out; omega) (by have := HCTL.out; omega)
          rw [hel] at hwt
          refine hwt.mono ?_
          clear hwt
          rintro e w6 ⟨v1, v2, rfl, hwp⟩
          have hst := tame_store (HTA.out.below HBD.out) (Kd.R_below HU0.out HBD.out) (Kd.R_below HU1.out HBD.out) (Kd.R_below HU2.out HBD.out) hwp
          have HST := Aside0.mk hst
          have k4 := (hwp.keep _ (blk_lt (HTA.out.below HBD.out).b4) (Kd.R_ne (Kd.R_below HU1.out HBD.out) (HTA.out.below HBD.out).b4 (by decide)) (Kd.R_ne (Kd.R_below HU2.out HBD.out) (HTA.out.below HBD.out).b4 (by decide))).trans (HTA.out.below HBD.out).b4
          have k1 := (hwp.keep _ (blk_lt (HTA.out.below HBD.out).b1) (Kd.R_ne (Kd.R_below HU1.out HBD.out) (HTA.out.below HBD.out).b1 (by decide)) (Kd.R_ne (Kd.R_below HU2.out HBD.out) (HTA.out.below HBD.out).b1 (by decide))).trans (HTA.out.below HBD.out).b1
          have HK4 := Aside0.mk k4
          have HK1 := Aside0.mk k1
          obtain ⟨AV1, cv1, rfl⟩ := Kd.R_slice hwp.r1
          obtain ⟨AV2, cv2, rfl⟩ := Kd.R_slice hwp.r2
          obtain ⟨m1, hm1⟩ : ∃ m1, m1 = (Bt ++ [tameBit n t]).length := ⟨_, rfl⟩
          obtain ⟨m2, hm2⟩ : ∃ m2, m2 = (Ct ++ [wrap64 (1 + modN (atN c t) 100)]).length := ⟨_, rfl⟩
          rw [← hm1, ← hm2] at HST
          rw [← hm1, ← hm2]
          clear hst k4 k1 hwp hm1 hm2
          refine ⟨_, rfl, ?_⟩
          refine hK.out _ _ ⟨(blk_cell HK4.out 0).trans rfl, (blk_cell HK4.out 1).trans rfl, (blk_cell HK4.out 2).trans rfl, (blk_cell HK1.out 2).trans rfl⟩ (fun hHeld => ?_)
          clear hK K
          refine norm_ (a' := ?_) ?_ ?_
          rotate_left
          ·show Act.put _ (some 110) _ = _
           simp only [Act.put, List.setIfInBounds_toArray, List.set_cons_zero, List.set_cons_succ, i64_w, i32_w]
           rfl
          refine last_ (i := 9) (N := none) #[true, true, true, true, true, true, true, true, true, true] rfl rfl (by kernel_rfl) (by decide) (fun K hK => ?_)
          have hs0 : w6.cell? ⟨w.heap.size + 1 + 1, 0, none⟩ = some (.slice AU0 (tameW a).length cu0) := (blk_cell HK4.out 0).trans rfl
          have hs1 : w6.cell? ⟨w.heap.size + 1 + 1, 1, none⟩ = some (.slice AU1 Bt.length cu1) := (blk_cell HK4.out 1).trans rfl
          have hs2 : w6.cell? ⟨w.heap.size + 1 + 1, 2, none⟩ = some (.slice AU2 Ct.length cu2) := (blk_cell HK4.out 2).trans rfl
          have hf0 := blk_frozen HK4.out 0
          have hf1 := blk_frozen HK4.out 1
          have hf2 := blk_frozen HK4.out 2
          refine skip_ (w1 := ?_) (by rfl) rfl ?_ ?_
          rotate_left
          ·go_simp
           rfl
          refine hK.out _ _ ?_
          clear hK K
          clear hs0 hs1 hs2 hf0 hf1 hf2
          refine done_ (by kernel_rfl) ?_
          go_wp2
          go_roundg (k2 - 1)
          case measure => have := HKT.out; omega
          case rel =>
           refine ⟨t + 1, _, _, _, by go_num, ⟨by have := HKT.out; omega⟩, ⟨HST.out.1⟩, ⟨HST.out.2.1⟩, ⟨?_⟩, ⟨?_⟩⟩
           ·rw [HBT.out]; exact HST.out.2.2.1
           ·rw [HCT.out]; exact HST.out.2.2.2
       ·obtain rfl : t = 4 := by have := HKT.out; omega
        have e0 : Bt = tameB a b := by rw [hBt, HB1.out, HN.out]; rfl
        have e1 : Ct = tameC b c := by rw [hCt, HC1.out]; rfl
        rw [e0] at HU1 HTA
        rw [e1] at HU0 HU1 HU2 HTA
        clear hBt hCt e0 e1 Bt Ct
        have hs0 : wr.cell? ⟨w.heap.size + 1 + 1, 0, none⟩ = some (.slice AU0 (tameW a).length cu0) := (blk_cell HTA.out.b4 0).trans rfl
        have hs1 : wr.cell? ⟨w.heap.size + 1 + 1, 1, none⟩ = some (.slice AU1 (tameB a b).length cu1) := (blk_cell HTA.out.b4 1).trans rfl
        have hs2 : wr.cell? ⟨w.heap.size + 1 + 1, 2, none⟩ = some (.slice AU2 (tameC b c).length cu2) := (blk_cell HTA.out.b4 2).trans rfl
        have hq0 : wr.cell? ⟨w.heap.size + 1, 0, none⟩ = some (.slice none 0 0) := (blk_cell HTA.out.b2 0).trans rfl
        have hq1 : wr.cell? ⟨w.heap.size + 1, 1, none⟩ = some (.slice none 0 0) := (blk_cell HTA.out.b2 1).trans rfl
        have hq2 : wr.cell? ⟨w.heap.size + 1, 2, none⟩ = some (.slice none 0 0) := (blk_cell HTA.out.b2 2).trans rfl
        have hf0 := blk_frozen HTA.out.b2 0
        have hf1 := blk_frozen HTA.out.b2 1
        have hf2 := blk_frozen HTA.out.b2 2
        go_wp2
        have g0 := blk_set HTA.out.b2 0 (.slice AU0 (tameW a).length cu0)
        have g1 := blk_set g0 1 (.slice AU1 (tameB a b).length cu1)
        refine bodyPost_ret (results_cell_row rfl _ _ (w.heap.size + 1) 25 #[.slice AU0 (tameW a).length cu0, .slice AU1 (tameB a b).length cu1, .slice AU2 (tameC b c).length cu2] (0, 0) _ rfl ((blk_set g1 2 (.slice AU2 (tameC b c).length cu2)).trans rfl) Tryd.underlying25 rfl (by kernel_rfl)) rfl ?_
        refine ⟨_, _, _, rfl, ?_, ?_, ?_, ?_⟩
        ·exact Kd.R_set (Kd.R_set (Kd.R_set HU0.out HTA.out.b2 (by decide) 0 _) g0 (by decide) 1 _) g1 (by decide) 2 _
        ·exact Kd.R_mono (Kd.R_set (Kd.R_set (Kd.R_set HU1.out HTA.out.b2 (by decide) 0 _) g0 (by decide) 1 _) g1 (by decide) 2 _) (fun _ h => h.2)
        ·exact Kd.R_set (Kd.R_set (Kd.R_set HU2.out HTA.out.b2 (by decide) 0 _) g0 (by decide) 1 _) g1 (by decide) 2 _
        ·have hle : w.heap.size ≤ w.heap.size + 1 := by omega
         exact ((HTA.out.bl.setCell hle _).setCell hle _).setCell hle _
end
end Go.Proofs.YtekmiepdodaidaaDoor.X
end

section
/- Greedy's choice (closure 51), by hand. -/
set_option linter.unusedVariables false
set_option linter.unusedSimpArgs false
namespace Go.Proofs.YtekmiepdodaidaaDoor.X
open Go.RowKit Go.Proofs.YtekmiepdodaidaaDoorW.PrintWords Go.Proofs.YtekmiepdodaidaaDoorW.PrintLast Go.Proofs.YtekmiepdodaidaaDoorW.PrintMore

section
variable {A0 : Option Addr} {c0 : Nat} {a : List Int} {A1 : Option Addr} {c1 : Nat} {b : List (List Int)} {A2 : Option Addr} {c2 : Nat} {c : List Int} {A3 : Option Addr} {c3 : Nat} {al : Int} {gt : Nat} {W : World}
/-- The trial, as it lies. -/
structure TrialAt (W : World) (gt : Nat) (A0 : Option Addr) (c0 : Nat) (a : List Int) (A1 : Option Addr) (c1 : Nat) (b : List (List Int)) (A2 : Option Addr) (c2 : Nat) (c : List Int) (A3 : Option Addr) (c3 : Nat) (al : Int) : Prop where
 bt : W.heap[gt]? = some (.cells #[.slice A0 a.length c0, .slice A1 b.length c1, .slice A2 c.length c2, .slice A3 (onesOf b).length c3, .int .u64 al] 77 (0, 0))
 at_ : CaseAt W A0 c0 a A1 c1 b A2 c2 c
 r3 : Kd.C (Kd.int .u64) W A3 (onesOf b).length (onesOf b)
 n3 : (onesOf b).length ≤ c3
theorem TrialAt.below (h : TrialAt W gt A0 c0 a A1 c1 b A2 c2 c A3 c3 al) {w' : World} (hb : Below W.heap.size W w') : TrialAt w' gt A0 c0 a A1 c1 b A2 c2 c A3 c3 al := ⟨blk_below h.bt hb, h.at_.below hb, Kd.C_below h.r3 hb, h.n3⟩
end
end Go.Proofs.YtekmiepdodaidaaDoor.X
end

section
namespace Go.Proofs.YtekmiepdodaidaaDoor.X
open Go.RowKit Go.Proofs.YtekmiepdodaidaaDoorW.PrintWords Go.Proofs.YtekmiepdodaidaaDoorW.PrintLast Go.Proofs.YtekmiepdodaidaaDoorW.PrintMore
attribute [local go_sem] max2_int min2_int max_two min_two max_three min_three max_four min_four   -- for this text's walks alone
set_option linter.unusedVariables false
set_option linter.unusedSimpArgs false

theorem eqA57 (d : Nat) (w : World) (x0 y0 : Int) (x1 y1 : Int) (x2 y2 : Int) (x3 y3 : Int) :
  (Op.equalIn (d + 2) 57 (.agg #[.int .i64 x0, .int .i64 x1, .int .i64 x2, .int .i64 x3]) (.agg #[.int .i64 y0, .int .i64 y1, .int .i64 y2, .int .i64 y3])).run Tryd.prog w = .ok (x0 == y0 && (x1 == y1 && (x2 == y2 && (x3 == y3)))) w := by
 refine eqA_of Tryd.underlying57 (by kernel_rfl) ?_
 refine eqf_cons (by rfl) (by go_simp; rfl) (by go_simp; rfl) (by go_simp) ?_
 refine eqf_cons (by rfl) (by go_simp; rfl) (by go_simp; rfl) (by go_simp) ?_
 refine eqf_cons (by rfl) (by go_simp; rfl) (by go_simp; rfl) (by go_simp) ?_
 exact eqf_last (by rfl) (by go_simp; rfl) (by go_simp; rfl) (by go_simp)
end Go.Proofs.YtekmiepdodaidaaDoor.X
end

section
/- (trial).isPlan, by hand, first part: its closure, and what its map says. -/
set_option linter.unusedVariables false
set_option linter.unusedSimpArgs false
namespace Go.Proofs.YtekmiepdodaidaaDoor.X
open Go.RowKit Go.Proofs.YtekmiepdodaidaaDoorW.PrintWords Go.Proofs.YtekmiepdodaidaaDoorW.PrintLast Go.Proofs.YtekmiepdodaidaaDoorW.PrintMore
open Go.Maps (Keyed)
open Go.MapKept

section
variable {W : World} {bp bu B n : Nat} {g : KMap} {AP : Option Addr} {cp len : Nat}
end
structure UsedAt (plan : List S57) (i : Nat) (g : KMap) : Prop where
 at_ : ∀ j : Nat, j < plan.length → (g (ki (j : Int)) = some (.bool true) ∧ cntK (plan.take i) j = 1) ∨ (g (ki (j : Int)) = none ∧ cntK (plan.take i) j = 0)
 key : ∀ kl, (g kl).isSome = true → ∃ j : Nat, 1 ≤ j ∧ j < plan.length ∧ kl = ki (j : Int)
end Go.Proofs.YtekmiepdodaidaaDoor.X
end

section
/- (trial).isPlan, by hand: are the nodes a plan? -/
set_option linter.unusedVariables false
set_option linter.unusedSimpArgs false
namespace Go.Proofs.YtekmiepdodaidaaDoor.X
open Go.RowKit Go.Proofs.YtekmiepdodaidaaDoorW.PrintWords Go.Proofs.YtekmiepdodaidaaDoorW.PrintLast Go.Proofs.YtekmiepdodaidaaDoorW.PrintMore
attribute [local go_sem high] eqA57
structure PlanAt (TC PC : Array Value) (n nt : Nat) (plan : List S57) (gT gP gU B : Nat) (w w' : World) (i : Nat) : Prop where
 bT : w'.heap[gT]? = some (.cells TC 77 (0, 0))
 bP : w'.heap[gP]? = some (.cells PC 27 (0, 0))
 bU : w'.heap[gU]? = some (.cells #[.map (some B)] 102 (0, 0))
 bel : Below w.heap.size w w'
 used : ∃ g m, MapIs Tryd.prog 3 w' B m g ∧ m ≤ 2 * i ∧ UsedAt plan i g
 ok : ∀ i' : Nat, i' < i → nodeB n nt plan.length i' (rd_T57 plan i') = true
section
variable {TC PC : Array Value} {n nt : Nat} {plan : List S57} {gT gP gU B : Nat} {w wr : World} {i : Nat}
end
section
variable {A0 : Option Addr} {c0 : Nat} {a : List Int} {A1 : Option Addr} {c1 : Nat} {b : List (List Int)} {A2 : Option Addr} {c2 : Nat} {c : List Int} {A3 : Option Addr} {c3 : Nat} {ones : List Int} {al : Int} {A : Option Addr} {cp : Nat} {plan : List S57} {w : World}
end
end Go.Proofs.YtekmiepdodaidaaDoor.X
end

section
/- Layer 7, plain: trees of tests: none is better than what Best and Worst find. -/
set_option linter.unusedVariables false
namespace Go.Proofs.YtekmiepdodaidaaDoor.X
open Go.RowKit Go.Proofs.YtekmiepdodaidaaDoorW.PrintWords Go.Proofs.YtekmiepdodaidaaDoorW.PrintLast Go.Proofs.YtekmiepdodaidaaDoorW.PrintMore

inductive DT where
 | leaf (f : Nat) : DT
 | node (t : Nat) (z o : DT) : DT
/-- What its way costs. -/
def DT.cost (ones c : List Int) : DT → Nat → Int
 | .leaf _, _ => 0
 | .node t z o, f => rd c (t : Int) + (if memB (rd ones (t : Int)) f = true then o.cost ones c f else z.cost ones c f)
/-- Its tests are tests. -/
def DT.ok (nt : Nat) : DT → Prop
 | .leaf _ => True
 | .node t z o => t < nt ∧ z.ok nt ∧ o.ok nt
section
variable {a : List Int} {b : List (List Int)} {c : List Int}
end
end Go.Proofs.YtekmiepdodaidaaDoor.X
end

section
/- Layer 7: the program's functions at a case in which all faults differ. -/
set_option linter.unusedVariables false
set_option linter.unusedSimpArgs false
namespace Go.Proofs.YtekmiepdodaidaaDoor.X
open Go.RowKit Go.Proofs.YtekmiepdodaidaaDoorW.PrintWords Go.Proofs.YtekmiepdodaidaaDoorW.PrintLast Go.Proofs.YtekmiepdodaidaaDoorW.PrintMore

def coverOf (a : List Int) (b : List (List Int)) : List Int := (coverB (onesOf b) a.length (2 ^ (onesOf b).length)).getD []
theorem boxS7 {W : World} {g : Nat} {x y z : Value} (h : W.heap[g]? = some (.cells #[x, y, z] 25 (0, 0))) : W.cell? ⟨g, 0, none⟩ = some x ∧ W.cell? ⟨g, 1, none⟩ = some y ∧ W.cell? ⟨g, 2, none⟩ = some z :=
 ⟨(blk_cell h 0).trans rfl, (blk_cell h 1).trans rfl, (blk_cell h 2).trans rfl⟩
/-- A list that was made comes back, in a value. -/
def SlPost {α : Type} (d : Kd α) (l : List α) (f : Value → Value) (w : World) (e : Ending) (w' : World) : Prop := ∃ A n, e = .returned (f (.slice A l.length n)) ∧ (l.length ≤ n ∧ d.C w' A l.length l) ∧ Below w.heap.size w w'
theorem sl_post {α : Type} {d : Kd α} {e : Nat} {l : List α} {v : Value} {w w' : World} {f : Value → Value} {base : Nat} {ok : Nat → Prop} (h : d.R e w' base ok v l) (hb : Below w.heap.size w w') : SlPost d l f w (.returned (f v)) w' := by
 obtain ⟨A, n, rfl⟩ := Kd.R_slice h
 exact ⟨A, n, rfl, ⟨(Kd.R_reads' h).2.1, (Kd.R_reads' h).2.2⟩, hb⟩
section
variable {A0 : Option Addr} {c0 : Nat} {a : List Int} {A1 : Option Addr} {c1 : Nat} {b : List (List Int)} {A2 : Option Addr} {c2 : Nat} {c : List Int} {w : World}
theorem cover_n (h : CaseAt w A0 c0 a A1 c1 b A2 c2 c) (D : Differ a b c) : Calls Tryd.prog 28 #[.agg #[.slice A0 a.length c0, .slice A1 b.length c1, .slice A2 c.length c2]] w (SlPost (Kd.int .i64) (coverOf a b) (fun v => .tuple #[v, .int .i64 0]) w) := by
 refine (tests_Cover.calls A0 c0 a A1 c1 b A2 c2 c (coverOf a b) 0 w h.r0 h.n0 h.r1 h.n1 h.r2 h.n2 ?_).mono ?_
 ·unfold tests_Cover.f covRes
  rw [if_pos (caseB_of D.is), if_pos D.al]; rfl
 ·rintro e w' ⟨v, rfl, hv, hb⟩
  exact sl_post (f := fun v => .tuple #[v, .int .i64 0]) hv hb
theorem awake_n (w : World) (hT : Tab w) : Calls Tryd.prog 17 #[] w fun e w' => e = .returned (.bool true) ∧ Below w.heap.size w w' := by
 obtain ⟨k, hk⟩ := awake_ev.rounds
 exact tickinglaw07_awake.calls k true w hk hT
/-- A law's case, in a box of its own. -/
structure LawW (w : World) (A0 : Option Addr) (c0 : Nat) (a : List Int) (A1 : Option Addr) (c1 : Nat) (b : List (List Int)) (A2 : Option Addr) (c2 : Nat) (c : List Int) (g : Nat) (w' : World) : Prop where
 bx : w'.heap[g]? = some (.cells #[.slice A0 a.length c0, .slice A1 b.length c1, .slice A2 c.length c2] 25 (0, 0))
 cs : CaseAt w' A0 c0 a A1 c1 b A2 c2 c
 bl : Below w.heap.size w w'
 lt : w.heap.size ≤ g
theorem LawW.below {w : World} {A0 : Option Addr} {c0 : Nat} {a : List Int} {A1 : Option Addr} {c1 : Nat} {b : List (List Int)} {A2 : Option Addr} {c2 : Nat} {c : List Int} {g : Nat} {w' w2 : World} (h : LawW w A0 c0 a A1 c1 b A2 c2 c g w') (hb : Below w'.heap.size w' w2) : LawW w A0 c0 a A1 c1 b A2 c2 c g w2 := ⟨blk_below h.bx hb, h.cs.below hb, below_step h.bl hb, h.lt⟩
theorem LawW.cells {w : World} {A0 : Option Addr} {c0 : Nat} {a : List Int} {A1 : Option Addr} {c1 : Nat} {b : List (List Int)} {A2 : Option Addr} {c2 : Nat} {c : List Int} {g : Nat} {w' : World} (h : LawW w A0 c0 a A1 c1 b A2 c2 c g w') : w'.cell? ⟨g, 0, none⟩ = some (.slice A0 a.length c0) ∧ w'.cell? ⟨g, 1, none⟩ = some (.slice A1 b.length c1) ∧ w'.cell? ⟨g, 2, none⟩ = some (.slice A2 c.length c2) := boxS7 h.bx
/-- A tame case. -/
def TameSl (a : List Int) (b : List (List Int)) (c : List Int) (w : World) (e : Ending) (w' : World) : Prop :=
 ∃ B0 d0 B1 d1 B2 d2, e = .returned (.agg #[.slice B0 (tameW a).length d0, .slice B1 (tameB a b).length d1, .slice B2 (tameC b c).length d2]) ∧ CaseAt w' B0 d0 (tameW a) B1 d1 (tameB a b) B2 d2 (tameC b c) ∧ Below w.heap.size w w'
theorem tame_sl (h : CaseAt w A0 c0 a A1 c1 b A2 c2 c) : Calls Tryd.prog 33 #[.agg #[.slice A0 a.length c0, .slice A1 b.length c1, .slice A2 c.length c2]] w (TameSl a b c w) := by
 refine (tame_n h).mono ?_
 rintro e w' ⟨v0, v1, v2, rfl, h0, h1, h2, hb⟩
 obtain ⟨B0, d0, rfl⟩ := Kd.R_slice h0
 obtain ⟨B1, d1, rfl⟩ := Kd.R_slice h1
 obtain ⟨B2, d2, rfl⟩ := Kd.R_slice h2
 exact ⟨B0, d0, B1, d1, B2, d2, rfl, ⟨(Kd.R_reads' h0).2.2, (Kd.R_reads' h0).2.1, (Kd.R_reads' h1).2.2, (Kd.R_reads' h1).2.1, (Kd.R_reads' h2).2.2, (Kd.R_reads' h2).2.1⟩, hb⟩
end
section
variable {a : List Int} {b : List (List Int)} {c : List Int}
end
end Go.Proofs.YtekmiepdodaidaaDoor.X
end
