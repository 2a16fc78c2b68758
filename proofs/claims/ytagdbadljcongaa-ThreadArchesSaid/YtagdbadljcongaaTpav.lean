/- Texts behind ThreadArches, part 22: contracts of the program's functions and the plain words for them. -/
import Derived.Test.YtagdbadljcongaaTpaq
import Derived.Test.YtagdbadljcongaaTpar
import Derived.Test.YtagdbadljcongaaTpas
import Derived.Test.YtagdbadljcongaaTpau
section
/- The reference's search through pairs of places, and that it finds what the program finds. -/
set_option linter.unusedVariables false
set_option linter.unusedSimpArgs false
namespace Go.Proofs.Ytagdbadljcongaa.X
open Go.RowKit Go.Proofs.YtagdbadljcongaaW.PrintWords
/-- An entry of the reference: a word, and the places behind it in the two words; -1: it is none of their subsequences. -/
structure Rn where
  a : Int
  b : Int
  wd : List Nat
/-- The place behind a letter, or -1. -/
def nxP (l : List Nat) (i c : Nat) : Int := if nx l i c < l.length then ((nx l i c + 1 : Nat) : Int) else -1
def emb (e : Ent) : Rn := ⟨e.i, e.j, e.wd⟩
def dif (r : Rn) : Bool := decide (r.a < 0) != decide (r.b < 0)
def ins (r : Rn) : Bool := decide (0 ≤ r.a) && decide (0 ≤ r.b)
def hasP (R : List Rn) (a b : Int) : Bool := R.any fun r => r.a == a && r.b == b
/-- One letter's child. -/
def kid (u w : List Nat) (p : Ent) (c : Nat) : Rn := ⟨nxP u p.i (97 + c), nxP w p.j (97 + c), p.wd ++ [97 + c]⟩
def addK (R : List Rn) (k : Rn) : List Rn := if hasP R k.a k.b then R else R ++ [k]
def kids (u w : List Nat) (p : Ent) : List Nat → List Rn → List Rn
  | [], R => R
  | c :: cs, R => kids u w p cs (addK R (kid u w p c))
theorem addK_pre (R : List Rn) (k : Rn) : ∃ S, addK R k = R ++ S := by
  unfold addK
  split
  · exact ⟨[], by simp⟩
  · exact ⟨[k], rfl⟩
theorem kids_pre (u w : List Nat) (p : Ent) : ∀ (cs : List Nat) (R : List Rn), ∃ S, kids u w p cs R = R ++ S
  | [], R => ⟨[], by simp [kids]⟩
  | c :: cs, R => by
    obtain ⟨S, hS⟩ := addK_pre R (kid u w p c)
    obtain ⟨S2, hS2⟩ := kids_pre u w p cs (addK R (kid u w p c))
    exact ⟨S ++ S2, by show kids u w p cs (addK R (kid u w p c)) = _; rw [hS2, hS, List.append_assoc]⟩
/-- The reference's list is the program's queue, and entries that lead nowhere. -/
structure Like (Q : List Ent) (R : List Rn) : Prop where
  eq : R.filter ins = Q.map emb
  no : ∀ r ∈ R, dif r = false
  len : R.length = Q.length + (if hasP R (-1) (-1) then 1 else 0)
theorem nxP_in {l : List Nat} {i c : Nat} (h : nx l i c < l.length) : nxP l i c = ((nx l i c + 1 : Nat) : Int) := by unfold nxP; rw [if_pos h]
theorem nxP_out {l : List Nat} {i c : Nat} (h : ¬ nx l i c < l.length) : nxP l i c = -1 := by unfold nxP; rw [if_neg h]
theorem Like.has {Q : List Ent} {R : List Rn} (h : Like Q R) (i j : Nat) : hasP R (i : Int) (j : Int) = knownB Q i j := by
  rw [Bool.eq_iff_iff, knownB_iff]
  unfold hasP
  rw [List.any_eq_true]
  constructor
  · rintro ⟨r, hr, he⟩
    simp at he
    have hm : r ∈ R.filter ins := List.mem_filter.2 ⟨hr, by unfold ins; rw [he.1, he.2]; simp⟩
    rw [h.eq] at hm
    obtain ⟨e, he1, rfl⟩ := List.mem_map.1 hm
    refine ⟨e, he1, ?_, ?_⟩
    · have := he.1; unfold emb at this; dsimp only at this; omega
    · have := he.2; unfold emb at this; dsimp only at this; omega
  · rintro ⟨e, he, rfl, rfl⟩
    have hm : emb e ∈ R.filter ins := by rw [h.eq]; exact List.mem_map.2 ⟨e, he, rfl⟩
    exact ⟨emb e, (List.mem_filter.1 hm).1, by simp [emb]⟩
theorem Like.out {Q : List Ent} {R : List Rn} (h : Like Q R) (wd : List Nat) : Like Q (addK R ⟨-1, -1, wd⟩) := by
  unfold addK
  split
  · exact h
  · rename_i hn
    refine ⟨by rw [List.filter_append, h.eq]; simp [ins], fun r hr => ?_, ?_⟩
    · rcases List.mem_append.1 hr with hr | hr
      · exact h.no r hr
      · rw [List.mem_singleton] at hr; subst hr; rfl
    · have hl := h.len
      rw [if_neg hn] at hl
      have : hasP (R ++ [⟨-1, -1, wd⟩]) (-1) (-1) = true := by unfold hasP; rw [List.any_append]; simp
      rw [if_pos this, List.length_append, hl]; rfl
theorem Like.push {Q : List Ent} {R : List Rn} (h : Like Q R) (i j : Nat) (wd : List Nat) (hk : knownB Q i j = false) : Like (Q ++ [⟨i, j, wd⟩]) (addK R ⟨i, j, wd⟩) := by
  unfold addK
  rw [if_neg (by show ¬ hasP R (i : Int) (j : Int) = true; rw [h.has, hk]; decide)]
  refine ⟨by rw [List.filter_append, h.eq, List.map_append]; simp [ins, emb], fun r hr => ?_, ?_⟩
  · rcases List.mem_append.1 hr with hr | hr
    · exact h.no r hr
    · rw [List.mem_singleton] at hr
      subst hr
      unfold dif
      simp
      omega
  · have hl := h.len
    have : hasP (R ++ [⟨(i : Int), (j : Int), wd⟩]) (-1) (-1) = hasP R (-1) (-1) := by
      unfold hasP
      rw [List.any_append]
      have : ((i : Int) == -1) = false := beq_eq_false_iff_ne.mpr (by omega)
      simp [this]
    rw [this, List.length_append, List.length_append, hl]
    simp only [List.length_cons, List.length_nil]
    omega
end Go.Proofs.Ytagdbadljcongaa.X
end

section
namespace Go.Proofs.Ytagdbadljcongaa.X
open Go.RowKit Go.Proofs.YtagdbadljcongaaW.PrintWords Go.Proofs.YtagdbadljcongaaW.PrintLast Go.Proofs.YtagdbadljcongaaW.PrintMore
attribute [local go_sem] max2_int min2_int max_two min_two max_three min_three max_four min_four   -- for this text's walks alone
set_option linter.unusedVariables false
set_option linter.unusedSimpArgs false

theorem eqA88 (d : Nat) (w : World) (x0 y0 : Int) (x1 y1 : Int) :
    (Op.equalIn (d + 2) 88 (.agg #[.int .i64 x0, .int .i64 x1]) (.agg #[.int .i64 y0, .int .i64 y1])).run Try.prog w = .ok (x0 == y0 && (x1 == y1)) w := by
  refine eqA_of Try.underlying88 (by kernel_rfl) ?_
  refine eqf_cons (by rfl) (by go_simp; rfl) (by go_simp; rfl) (by go_simp) ?_
  exact eqf_last (by rfl) (by go_simp; rfl) (by go_simp; rfl) (by go_simp)
end Go.Proofs.Ytagdbadljcongaa.X
end

section
namespace Go.Proofs.Ytagdbadljcongaa.X
open Go.RowKit Go.Proofs.YtagdbadljcongaaW.PrintWords Go.Proofs.YtagdbadljcongaaW.PrintLast Go.Proofs.YtagdbadljcongaaW.PrintMore
attribute [local go_sem] max2_int min2_int max_two min_two max_three min_three max_four min_four   -- for this text's walks alone
set_option linter.unusedVariables false
set_option linter.unusedSimpArgs false

attribute [local go_sem high] eqA88
def tickingref03_has.l0 : Nat → List (S88) → Int → Int → Int → Option (Bool)
 | 0, _, _, _, _ => none
 | k + 1, x0, x5, x110000, x110001 => if x5 < (x0.length : Int) then (if 0 ≤ x5 then (if (((rd_T88 x0 x5).f0) == x110000 && (((rd_T88 x0 x5).f1) == x110001)) = true then (some true) else (tickingref03_has.l0 k x0 (wrap64 (x5 + 1)) x110000 x110001)) else (none)) else (some false)
def tickingref03_has.f (k : Nat) (l0 : List (S88)) (a1_0 : Int) (a1_1 : Int) : Option (Bool) := tickingref03_has.l0 k l0 0 a1_0 a1_1
set_option maxHeartbeats 8000000 in
set_option maxRecDepth 100000 in
theorem tickingref03_has.calls (k : Nat) (A0 : Option Addr) (c0 : Nat) (l0 : List (S88)) (a1_0 : Int) (a1_1 : Int) (r : Bool) (w : World) (hr0 : Kd.C k88 w A0 l0.length l0) (hc0 : l0.length ≤ c0) (h : tickingref03_has.f k l0 a1_0 a1_1 = some r) :
  Calls Try.prog 56 #[.slice A0 l0.length c0, .agg #[.int .i64 a1_0, .int .i64 a1_1]] w fun e w' => e = .returned (.bool r) ∧ Below w.heap.size w w' := by
 have hu88 := Try.underlying88
 have HR0 := Aside0.mk hr0
 have HC0 := Aside0.mk hc0
 clear hr0 hc0
 have HB := Aside0.mk (Below.refl w.heap.size w)
 have H : (tickingref03_has.l0 k l0 0 a1_0 a1_1) = some r := h
 clear h
 have H' := Aside0.mk H
 clear H
 go_enter Try.func56, Try.ntmps56
 go_wp2_with (first | ((with_reducible refine gate_dst (N := 3) rfl ?_); refine box_event ?hg (N := 3) ?hd (cs := #[.int .i64 a1_0, .int .i64 a1_1]) (t := 88) ?hr ?_; (case hd => rfl); (case hg => rfl); (case hr => first | (go_simp; done) | (go_simp; rfl)); intro gb109 hg w3 hbox hb; have n0_ := Aside0.mk (below_step bz hb); have n1_ := Aside0.mk (hbox); have n2_ := Aside0.mk ((by rw [hg]; exact (below_size bz) : w.heap.size ≤ gb109)); have n3_ := Aside0.mk ((by rw [hg]; exact (below_size bz) : w.heap.size ≤ gb109)); clear HB; have HB := n0_; have BK109 := n1_; have GW109 := n2_; have GE109 := n3_; clear n0_ n1_ n2_ n3_; clear hb hbox hg))
 repeat (go_quiet (first | ((with_reducible refine gate_dst (N := 3) rfl ?_); refine box_event ?hg (N := 3) ?hd (cs := #[.int .i64 a1_0, .int .i64 a1_1]) (t := 88) ?hr ?_; (case hd => rfl); (case hg => rfl); (case hr => first | (go_simp; done) | (go_simp; rfl)); intro gb109 hg w3 hbox hb; have n0_ := Aside0.mk (below_step bz hb); have n1_ := Aside0.mk (hbox); have n2_ := Aside0.mk ((by rw [hg]; exact (below_size bz) : w.heap.size ≤ gb109)); have n3_ := Aside0.mk ((by rw [hg]; exact (below_size bz) : w.heap.size ≤ gb109)); clear HB; have HB := n0_; have BK109 := n1_; have GW109 := n2_; have GE109 := n3_; clear n0_ n1_ n2_ n3_; clear hb hbox hg)); try go_wp2_with (first | ((with_reducible refine gate_dst (N := 3) rfl ?_); refine box_event ?hg (N := 3) ?hd (cs := #[.int .i64 a1_0, .int .i64 a1_1]) (t := 88) ?hr ?_; (case hd => rfl); (case hg => rfl); (case hr => first | (go_simp; done) | (go_simp; rfl)); intro gb109 hg w3 hbox hb; have n0_ := Aside0.mk (below_step bz hb); have n1_ := Aside0.mk (hbox); have n2_ := Aside0.mk ((by rw [hg]; exact (below_size bz) : w.heap.size ≤ gb109)); have n3_ := Aside0.mk ((by rw [hg]; exact (below_size bz) : w.heap.size ≤ gb109)); clear HB; have HB := n0_; have BK109 := n1_; have GW109 := n2_; have GE109 := n3_; clear n0_ n1_ n2_ n3_; clear hb hbox hg)))
 go_loopg [5] k (fun kq v5 w' => ∃ (x5_1 : Int), v5 = .int .i64 x5_1 ∧ Aside0 (tickingref03_has.l0 kq l0 x5_1 a1_0 a1_1 = some r) ∧ Aside0 (kq ≤ k) ∧ Aside0 (w'.heap[gb109]? = some (.cells #[.int .i64 a1_0, .int .i64 a1_1] 88 (0, 0))) ∧ Aside0 (Below w.heap.size w w'))
 case atStart => exact ⟨(0), (by first | rfl | (simp; done) | (simp [*]; done)), H', ⟨Nat.le_refl _⟩, ⟨by (with_reducible repeat (first | refine blk_drewN ?_ _ | refine blk_drew ?_ | refine blk_alloc ?_ _)); exact BK109.out⟩, ⟨by repeat (first | (with_reducible first | exact HB.out | apply below_alloc | apply pw_below_drewN | apply below_drew1 | refine below_set ?_ GE109.out) | exact HB.out)⟩⟩
 case round =>
  clear H'
  try clear p2
  obtain ⟨x5_1, rfl, HA, HK1, BK109, HB⟩ := hrel
  cases gk with
  | zero => exact absurd HA.out (by simp [tickingref03_has.l0])
  | succ k1 =>
   have H := HA.out
   clear HA
   simp only [tickingref03_has.l0] at H
   by_cases c4 : x5_1 < (l0.length : Int)
   ·rw [if_pos c4] at H
    have c4b0 : decide (x5_1 < (l0.length : Int)) = true := decide_eq_true c4
    clear c4
    by_cases c5 : 0 ≤ x5_1
    ·rw [if_pos c5] at H
     have c5b0 : decide (0 ≤ x5_1) = true := decide_eq_true c5
     clear c5
     by_cases c6 : (((rd_T88 l0 x5_1).f0) == a1_0 && (((rd_T88 l0 x5_1).f1) == a1_1)) = true
     ·rw [if_pos c6] at H
      have c6b0 : (((rd_T88 l0 x5_1).f0) == a1_0 && (((rd_T88 l0 x5_1).f1) == a1_1)) = true := c6
      (try (have c6b1 : decide (((rd_T88 l0 x5_1).f0) = a1_0 && (((rd_T88 l0 x5_1).f1) == a1_1)) = true := by simpa using c6))
      (try (have c6b2 : (((rd_T88 l0 x5_1).f0) == a1_0 && (((rd_T88 l0 x5_1).f1) == a1_1)) = true := by simpa using c6))
      clear c6
      obtain rfl := Option.some.inj H
      have p110 : 0 ≤ (x5_1 : Int) := of_decide_eq_true az
      have q110 : x5_1 < (l0.length : Int) := of_decide_eq_true az
      obtain ⟨ad110, e110, hx110_0, hx110_1⟩ := at_T88 HR0.out x5_1 p110 q110
      cases e110
      replace hx110_0 := (HB.out.cell (World.block_lt_of_cell? w _ hx110_0)).trans hx110_0
      replace hx110_1 := (HB.out.cell (World.block_lt_of_cell? w _ hx110_1)).trans hx110_1
      replace p110 := eq_true p110
      replace q110 := eq_true q110
      have hcz7_0 : wr.cell? ⟨gb109, 0, none⟩ = some (.int .i64 a1_0) := (blk_cell BK109.out 0).trans rfl
      have hcz7_1 : wr.cell? ⟨gb109, 1, none⟩ = some (.int .i64 a1_1) := (blk_cell BK109.out 1).trans rfl
      have hfz7_0 := blk_frozen BK109.out 0
      have hfz7_1 := blk_frozen BK109.out 1
      go_wp2
      repeat (go_quiet (fail); try go_wp2)
      go_ret
      exact ⟨by first | rfl | (simp [errW_none, errW_some] <;> rfl) | (simp [*, errW_none, errW_some] <;> rfl), by repeat (first | (with_reducible first | exact HB.out | apply below_alloc | apply pw_below_drewN | apply below_drew1 | refine below_set ?_ GE109.out) | exact HB.out)⟩
     ·rw [if_neg c6] at H
      have c6b0 : (((rd_T88 l0 x5_1).f0) == a1_0 && (((rd_T88 l0 x5_1).f1) == a1_1)) = false := by simpa using c6
      (try (have c6b1 : decide (((rd_T88 l0 x5_1).f0) = a1_0 && (((rd_T88 l0 x5_1).f1) == a1_1)) = false := by simpa using c6))
      (try (have c6b2 : (((rd_T88 l0 x5_1).f0) == a1_0 && (((rd_T88 l0 x5_1).f1) == a1_1)) = false := by simpa using c6))
      (try (have c6b3 : ¬ (((rd_T88 l0 x5_1).f0) = a1_0 && (((rd_T88 l0 x5_1).f1) == a1_1)) := by simpa using c6))
      clear c6
      have H' := Aside0.mk H
      clear H
      have p110 : 0 ≤ (x5_1 : Int) := of_decide_eq_true az
      have q110 : x5_1 < (l0.length : Int) := of_decide_eq_true az
      obtain ⟨ad110, e110, hx110_0, hx110_1⟩ := at_T88 HR0.out x5_1 p110 q110
      cases e110
      replace hx110_0 := (HB.out.cell (World.block_lt_of_cell? w _ hx110_0)).trans hx110_0
      replace hx110_1 := (HB.out.cell (World.block_lt_of_cell? w _ hx110_1)).trans hx110_1
      replace p110 := eq_true p110
      replace q110 := eq_true q110
      have hcz8_0 : wr.cell? ⟨gb109, 0, none⟩ = some (.int .i64 a1_0) := (blk_cell BK109.out 0).trans rfl
      have hcz8_1 : wr.cell? ⟨gb109, 1, none⟩ = some (.int .i64 a1_1) := (blk_cell BK109.out 1).trans rfl
      have hfz8_0 := blk_frozen BK109.out 0
      have hfz8_1 := blk_frozen BK109.out 1
      go_wp2
      repeat (go_quiet (fail); try go_wp2)
      go_roundg k1
      case measure => have := HK1.out; omega
      case rel => exact ⟨(wrap64 (x5_1 + 1)), (by first | rfl | (simp; done) | (simp [*]; done)), H', ⟨by have := HK1.out; omega⟩, ⟨by (with_reducible repeat (first | refine blk_drewN ?_ _ | refine blk_drew ?_ | refine blk_alloc ?_ _)); exact BK109.out⟩, ⟨by repeat (first | (with_reducible first | exact HB.out | apply below_alloc | apply pw_below_drewN | apply below_drew1 | refine below_set ?_ GE109.out) | exact HB.out)⟩⟩
    ·rw [if_neg c5] at H
     exact absurd H (by simp)
   ·rw [if_neg c4] at H
    have c4b0 : decide (x5_1 < (l0.length : Int)) = false := decide_eq_false c4
    clear c4
    obtain rfl := Option.some.inj H
    go_wp2
    repeat (go_quiet (fail); try go_wp2)
    go_ret
    exact ⟨by first | rfl | (simp [errW_none, errW_some] <;> rfl) | (simp [*, errW_none, errW_some] <;> rfl), by repeat (first | (with_reducible first | exact HB.out | apply below_alloc | apply pw_below_drewN | apply below_drew1 | refine below_set ?_ GE109.out) | exact HB.out)⟩

end Go.Proofs.Ytagdbadljcongaa.X
end

section
/- tickingref03.Parted. -/
set_option linter.unusedVariables false
set_option linter.unusedSimpArgs false
namespace Go.Proofs.Ytagdbadljcongaa.X
open Go Go.RowKit Go.Proofs Go.Proofs.YtagdbadljcongaaW.PrintWords Go.Proofs.YtagdbadljcongaaW.PrintLast Go.Proofs.YtagdbadljcongaaW.PrintMore
def rnP (r : Rn) : S88 := ⟨r.a, r.b⟩
theorem has_ev (R : List Rn) (a b : Int) (hl : R.length ≤ 1000000) : ∀ d i k, i + d = R.length → d < k → tickingref03_has.l0 k (R.map rnP) (i : Int) a b = some (hasP (R.drop i) a b)
  | 0, i, 0, h, hk => absurd hk (by omega)
  | 0, i, k + 1, h, hk => by
    unfold tickingref03_has.l0
    rw [if_neg (by simp; omega), List.drop_eq_nil_of_le (by omega)]
    rfl
  | d + 1, i, 0, h, hk => absurd hk (by omega)
  | d + 1, i, k + 1, h, hk => by
    have hi : i < R.length := by omega
    have er : rd_T88 (R.map rnP) (i : Int) = rnP R[i] := by unfold rd_T88; simp [List.getD_eq_getElem?_getD, hi]
    unfold tickingref03_has.l0
    rw [if_pos (by simp; omega), if_pos (by omega), er, List.drop_eq_getElem_cons hi, wr1 (by omega)]
    unfold hasP
    rw [List.any_cons]
    show (if ((R[i].a == a) && (R[i].b == b)) = true then some true else tickingref03_has.l0 k (R.map rnP) ((i + 1 : Nat) : Int) a b) = _
    by_cases h2 : ((R[i].a == a) && (R[i].b == b)) = true
    · rw [if_pos h2, h2]; rfl
    · rw [if_neg h2, has_ev R a b hl d (i + 1) k (by omega) (by omega)]
      rw [Bool.not_eq_true] at h2
      rw [h2]
      rfl
theorem has_any (R : List Rn) (a b : Int) (A : Option Addr) (c : Nat) (w : World) (hl : R.length ≤ 1000000) (hC : Kd.C k88 w A R.length (R.map rnP)) (hc : R.length ≤ c) (r : Bool) (hr : hasP R a b = r) : Calls Try.prog 56 #[.slice A R.length c, .agg #[.int .i64 a, .int .i64 b]] w fun e w' => e = .returned (.bool r) ∧ Below w.heap.size w w' := by
  have h := tickingref03_has.calls (R.length + 1) A c (R.map rnP) a b r w (by rw [List.length_map]; exact hC) (by rw [List.length_map]; exact hc) (by
    have := has_ev R a b hl R.length 0 (R.length + 1) (by omega) (by omega)
    rw [List.drop_zero, hr] at this
    exact this)
  rw [List.length_map] at h
  exact h
/-- What Parted holds. -/
structure PtAt (w : World) (R : List Rn) (A : Option Addr) (c : Nat) (B : Option Addr) (d : Nat) (ws : List ByteArray) (V : World) : Prop where
  row : Kd.R k88 88 V w.heap.size (fun _ => True) (.slice A R.length c) (R.map rnP)
  wds : Kd.R Kd.string 9 V w.heap.size (fun k => True) (.slice B R.length d) ws
  same : ws.map bl = R.map Rn.wd
  bel : Below w.heap.size w V
theorem PtAt.below {w : World} {R : List Rn} {A : Option Addr} {c : Nat} {B : Option Addr} {d : Nat} {ws : List ByteArray} {V V' : World} (h : PtAt w R A c B d ws V) (hb : Below V.heap.size V V') : PtAt w R A c B d ws V' :=
  ⟨Kd.R_below h.row hb, Kd.R_below h.wds hb, h.same, below_step h.bel hb⟩
theorem PtAt.len {w : World} {R : List Rn} {A : Option Addr} {c : Nat} {B : Option Addr} {d : Nat} {ws : List ByteArray} {V : World} (h : PtAt w R A c B d ws V) : ws.length = R.length := by
  have := congrArg List.length h.same
  simpa using this
/-- An entry's places. -/
theorem PtAt.places {w : World} {R : List Rn} {A : Option Addr} {c : Nat} {B : Option Addr} {d : Nat} {ws : List ByteArray} {V : World} (h : PtAt w R A c B d ws V) (q : Nat) (hq : q < R.length) : ∃ g, A = some ⟨g, 0, none⟩ ∧ V.cell? ⟨g, q * 2, none⟩ = some (.int .i64 (R[q]).a) ∧ V.cell? ⟨g, q * 2 + 1, none⟩ = some (.int .i64 (R[q]).b) := by
  obtain ⟨g, cap, hv, _⟩ := Kd.R_form h.row (by rw [List.length_map]; omega)
  injection hv with hv1 hv2 hv3
  subst hv1
  have hC := (Kd.R_reads' h.row).2.2
  obtain ⟨ad, e, h1, h2⟩ := at_T88 hC (q : Int) (by omega) (by simpa using hq)
  injection e with e
  subst e
  have er : rd_T88 (R.map rnP) (q : Int) = rnP R[q] := by unfold rd_T88; simp [List.getD_eq_getElem?_getD, hq]
  rw [er] at h1 h2
  have ea : (⟨g, 0, none⟩ : Addr).add ((q : Int).toNat * 2) = ⟨g, q * 2, none⟩ := by rw [show (q : Int).toNat = q by omega]; exact add_plain g (q * 2)
  rw [ea] at h1 h2
  exact ⟨g, rfl, h1, h2⟩
/-- An entry's word. -/
theorem PtAt.word {w : World} {R : List Rn} {A : Option Addr} {c : Nat} {B : Option Addr} {d : Nat} {ws : List ByteArray} {V : World} (h : PtAt w R A c B d ws V) (q : Nat) (hq : q < R.length) : ∃ g s, B = some ⟨g, 0, none⟩ ∧ V.cell? ⟨g, q, none⟩ = some (.string s) ∧ bl s = (R[q]).wd := by
  have hl := h.len
  obtain ⟨g, cap, hv, _⟩ := Kd.R_form h.wds (by omega)
  injection hv with hv1 hv2 hv3
  subst hv1
  have hC := (Kd.R_reads' h.wds).2.2
  obtain ⟨ad, e, h1⟩ := Kd.at_string hC (q : Int) (by omega) (by omega)
  injection e with e
  subst e
  rw [Int.toNat_natCast, add_plain g q] at h1
  have hq2 : q < ws.length := by omega
  rw [rdOf_nat ws q hq2] at h1
  refine ⟨g, ws[q], rfl, h1, ?_⟩
  have h2 : (ws.map bl)[q]'(by simpa using hq2) = (R.map Rn.wd)[q]'(by simpa using hq) := by simp only [h.same]
  simpa using h2
/-- The reference's list. -/
structure RnOk (u w : List Nat) (R : List Rn) : Prop where
  rng : ∀ r ∈ R, -1 ≤ r.a ∧ r.a ≤ u.length ∧ -1 ≤ r.b ∧ r.b ≤ w.length ∧ r.wd.length ≤ 61
  nd : R.Pairwise (fun x y => ¬ (x.a = y.a ∧ x.b = y.b))
theorem RnOk.start (u w : List Nat) : RnOk u w [⟨0, 0, []⟩] := ⟨fun r hr => by rw [List.mem_singleton] at hr; subst hr; simp, by simp⟩
theorem RnOk.size {u w : List Nat} {R : List Rn} (h : RnOk u w R) (hu : u.length ≤ 60) (hw : w.length ≤ 60) : R.length ≤ 3844 := by
  have h1 := nodup_le (R.map fun r => ((r.a + 1).toNat) * 62 + (r.b + 1).toNat) (List.range 3844) (by
    rw [List.pairwise_map]
    refine h.nd.imp_of_mem fun {a b} ha hb hab e => hab ?_
    have := h.rng a ha; have := h.rng b hb
    omega) (fun x hx => by
    obtain ⟨e, he, rfl⟩ := List.mem_map.1 hx
    have := h.rng e he
    exact List.mem_range.2 (by omega))
  simpa using h1
theorem RnOk.add {u w : List Nat} {R : List Rn} (h : RnOk u w R) {p : Ent} {c : Nat} (hp : p.i ≤ u.length ∧ p.j ≤ w.length ∧ p.wd.length ≤ 60) : RnOk u w (addK R (kid u w p c)) := by
  unfold addK
  split
  · exact h
  · rename_i hn
    refine ⟨fun r hr => ?_, ?_⟩
    · rcases List.mem_append.1 hr with hr | hr
      · exact h.rng r hr
      · rw [List.mem_singleton] at hr
        subst hr
        have h1 := nx_le u p.i (97 + c) hp.1
        have h2 := nx_le w p.j (97 + c) hp.2.1
        unfold kid nxP
        refine ⟨?_, ?_, ?_, ?_, ?_⟩
        · dsimp only; split <;> omega
        · dsimp only; split <;> omega
        · dsimp only; split <;> omega
        · dsimp only; split <;> omega
        · simp; omega
    · rw [List.pairwise_append]
      refine ⟨h.nd, by simp, fun a ha b hb e => hn ?_⟩
      rw [List.mem_singleton] at hb
      subst hb
      exact List.any_eq_true.2 ⟨a, ha, by simp [e.1, e.2]⟩
theorem app_p88 {w W : World} {base : Nat} {ok : Nat → Prop} {A : Option Addr} {c n : Nat} {xs : List S88} {x : S88} (hn : xs.length = n) (hr : Kd.R k88 88 W base ok (.slice A n c) xs) (hB : Below base w W) (hbase : base ≤ W.heap.size) (hfresh : ∀ k, W.heap.size ≤ k → ok k) (hl : xs.length ≤ 1000000) (i j : Nat) (ops : Array Oper) (rest : List Oper) (o : Oper) (a : Act) (Q : Exit → Act → World → Prop)
    (hgd : o.guard = none) (ho : o.op = .call { callee := .builtin .append, args := #[.tmp i, .tmp j], argTypes := #[89, 89] }) (hs : a.eval (.tmp i) = .slice A n c) (hx : a.eval (.tmp j) = .slice (some ⟨W.heap.size, 0, none⟩) 1 1)
    (h : ∀ A' c' w', Kd.R k88 88 w' base ok (.slice A' (n + 1) c') (xs ++ [x]) → Below base w w' → W.grownBy w' (Value.slice A n c).ownBlock → wpList Try.prog ops Q rest (a.put o.dst (.slice A' (n + 1) c')) w') :
    wpList Try.prog ops Q (o :: rest) a (W.alloc (.cells #[.int .i64 x.f0, .int .i64 x.f1] 88)) := by
  refine Kd.R_append k88 (w0 := w) base hgd (.tmp i) (.tmp j) 89 88 (.agg #[.int .i64 0, .int .i64 0]) 16 ho Try.underlying89 info88 rfl (by decide) (by decide) (.slice A n c) xs x [.int .i64 x.f0, .int .i64 x.f1] ok (fun _ => False) hs hx (k88_mkM _ _ _ _) (fun _ h => h.elim) hfresh hr hB hbase (by omega) ?_
  intro v1 w1 ho hb hg hat
  obtain ⟨A', c', rfl⟩ := Kd.R_slice ho
  have e : (xs ++ [x]).length = n + 1 := by simp [hn]
  rw [e] at ho ⊢
  exact h A' c' w1 ho hb hg
/-- What Parted returns. -/
def PtPost (r : Option (List Nat)) (w : World) (e : Ending) (w' : World) : Prop := ∃ o, bl o = r.getD [] ∧ e = .returned (.tuple #[.string o, .bool r.isSome]) ∧ Below w.heap.size w w'
theorem PtAt.start (w : World) : PtAt w [⟨0, 0, []⟩] (some ⟨w.heap.size + 1, 0, none⟩) 1 (some ⟨w.heap.size, 0, none⟩) 1 [⟨#[]⟩] ((w.alloc (.cells #[.string ⟨#[]⟩] 9)).alloc (.cells #[.int .i64 0, .int .i64 0] 88)) := by
  have s0 : (w.alloc (.cells #[.string ⟨#[]⟩] 9)).heap.size = w.heap.size + 1 := World.size_alloc _ _
  refine ⟨?_, ?_, rfl, below_alloc (below_alloc (Below.refl _ _) _) _⟩
  · refine ⟨fun k _ => trivial, ?_⟩
    have h := OwnRow.lit (R := k88.M ((w.alloc (.cells #[.string ⟨#[]⟩] 9)).alloc (.cells #[.int .i64 0, .int .i64 0] 88)) w.heap.size (fun k => True ∧ some k ≠ some (w.heap.size + 1))) (e := 88) (w.alloc (.cells #[.string ⟨#[]⟩] 9)) w.heap.size (Reps.c2 (k88_mkM _ _ _ ⟨0, 0⟩) (Reps.none _ 2)) (by omega) (by simp)
    rw [s0] at h
    exact h
  · have h : Kd.R Kd.string 9 (w.alloc (.cells #[.string ⟨#[]⟩] 9)) w.heap.size (fun _ => True) (.slice (some ⟨w.heap.size, 0, none⟩) 1 1) [⟨#[]⟩] :=
      ⟨fun k _ => trivial, OwnRow.lit (R := Kd.string.M (w.alloc (.cells #[.string ⟨#[]⟩] 9)) w.heap.size (fun k => True ∧ some k ≠ some w.heap.size)) (e := 9) w w.heap.size (Reps.one rfl (Reps.none _ 1)) (by omega) (by simp)⟩
    exact Kd.R_below h (below_alloc (Below.refl _ _) _)
end Go.Proofs.Ytagdbadljcongaa.X
end

section
/- Arches and the first absent word: what holds of them. -/
set_option linter.unusedVariables false
set_option linter.unusedSimpArgs false
namespace Go.Proofs.Ytagdbadljcongaa.X
open Go.RowKit Go.Proofs.YtagdbadljcongaaW.PrintWords
theorem nx_mono1 {l : List Nat} {i : Nat} (c : Nat) (h : i < l.length) : nx l i c ≤ nx l (i + 1) c := by
  rw [nx_step l i c h]
  have := nx_le l (i + 1) c (by omega)
  split <;> omega
theorem nx_mono {l : List Nat} (c : Nat) : ∀ (d i : Nat), i + d ≤ l.length → nx l i c ≤ nx l (i + d) c
  | 0, i, h => Nat.le_refl _
  | d + 1, i, h => Nat.le_trans (nx_mono1 (i := i) c (by omega)) (by
    have := nx_mono (l := l) c d (i + 1) (by omega)
    rwa [show i + 1 + d = i + (d + 1) by omega] at this)
theorem nx_amx {l : List Nat} {k i c : Nat} (hc : c < k) : nx l i (97 + c) ≤ amx l k i := maxF_ge (fun c => nx l i (97 + c)) (k - 1) c (by omega)
theorem amx_mono {l : List Nat} {k i d : Nat} (h : i + d ≤ l.length) : amx l k i ≤ amx l k (i + d) :=
  maxF_le _ _ _ fun j hj => Nat.le_trans (nx_mono (97 + j) d i h) (maxF_ge (fun c => nx l (i + d) (97 + c)) (k - 1) j hj)
theorem lst_mono {l : List Nat} {k : Nat} : ∀ (n i j : Nat), l.length + 1 - i = n → i ≤ j → lst l k j ≤ lst l k i := by
  intro n
  induction n using Nat.strongRecOn with
  | _ n ih =>
    intro i j hn hij
    by_cases hj : j ≤ l.length
    · rw [lst_eq hj, lst_eq (show i ≤ l.length by omega)]
      have h1 := amx_mono (k := k) (show i + (j - i) ≤ l.length by omega)
      rw [show i + (j - i) = j by omega] at h1
      have h2 := amx_le (k := k) (show i ≤ l.length by omega)
      have := ih (l.length + 1 - (amx l k i + 1)) (by omega) (amx l k i + 1) (amx l k j + 1) rfl (by omega)
      omega
    · unfold lst
      rw [if_neg hj]
      exact Nat.zero_le _
theorem lst_next {l : List Nat} {k i c : Nat} (hi : i ≤ l.length) (hc : c < k) : lst l k i ≤ 1 + lst l k (nx l i (97 + c) + 1) := by
  rw [lst_eq hi]
  have := lst_mono (l := l) (k := k) _ (nx l i (97 + c) + 1) (amx l k i + 1) rfl (by have := nx_amx (l := l) (i := i) hc; omega)
  omega
theorem least_ex (p : Nat → Bool) : ∀ n, p n = true → ∃ c, c ≤ n ∧ p c = true ∧ ∀ d, d < c → p d = false := by
  intro n
  induction n using Nat.strongRecOn with
  | _ n ih =>
    intro h
    by_cases he : ∃ m, m < n ∧ p m = true
    · obtain ⟨m, h1, h2⟩ := he
      obtain ⟨c, a, b, d⟩ := ih m h1 h2
      exact ⟨c, by omega, b, d⟩
    · exact ⟨n, Nat.le_refl _, h, fun d hd => by
        cases e : p d with
        | false => rfl
        | true => exact absurd ⟨d, hd, e⟩ he⟩
theorem abs_good {l : List Nat} {k i : Nat} (hi : i ≤ l.length) (hk : 1 ≤ k) : ∃ c, c < k ∧ abs_ l k i = (97 + c) :: abs_ l k (nx l i (97 + c) + 1) ∧ 1 + lst l k (nx l i (97 + c) + 1) = lst l k i ∧ ∀ d, d < c → lst l k i < 1 + lst l k (nx l i (97 + d) + 1) := by
  obtain ⟨n, hn, hg⟩ := good_ex (k := k) hi hk
  obtain ⟨c, h1, h2, h3⟩ := least_ex (good l k i) n hg
  refine ⟨c, by omega, abs_step hi (by omega) h2 h3, of_decide_eq_true h2, fun d hd => ?_⟩
  have h4 := of_decide_eq_false (h3 d hd)
  have h5 := lst_next (k := k) hi (show d < k by omega)
  omega
theorem abs_len {l : List Nat} {k : Nat} (hk : 1 ≤ k) : ∀ (n i : Nat), l.length + 1 - i = n → (abs_ l k i).length = lst l k i := by
  intro n
  induction n using Nat.strongRecOn with
  | _ n ih =>
    intro i hn
    by_cases hi : i ≤ l.length
    · obtain ⟨c, hc, h1, h2, _⟩ := abs_good (k := k) hi hk
      have hq := nx_le l i (97 + c) hi
      rw [h1, List.length_cons, ih _ (by omega) (nx l i (97 + c) + 1) rfl]
      omega
    · rw [abs_end hi]
      unfold lst
      rw [if_neg hi]; rfl
theorem abs_ltr {l : List Nat} {k : Nat} (hk : 1 ≤ k) : ∀ (n i : Nat), l.length + 1 - i = n → ∀ b ∈ abs_ l k i, 97 ≤ b ∧ b < 97 + k := by
  intro n
  induction n using Nat.strongRecOn with
  | _ n ih =>
    intro i hn b hb
    by_cases hi : i ≤ l.length
    · obtain ⟨c, hc, h1, h2, _⟩ := abs_good (k := k) hi hk
      have hq := nx_le l i (97 + c) hi
      rw [h1] at hb
      rcases List.mem_cons.1 hb with rfl | hb
      · omega
      · exact ih _ (by omega) (nx l i (97 + c) + 1) rfl b hb
    · rw [abs_end hi] at hb
      cases hb
theorem abs_not {l : List Nat} {k : Nat} (hk : 1 ≤ k) : ∀ (n i : Nat), l.length + 1 - i = n → i ≤ l.length → wth l i (abs_ l k i) = none := by
  intro n
  induction n using Nat.strongRecOn with
  | _ n ih =>
    intro i hn hi
    obtain ⟨c, hc, h1, h2, _⟩ := abs_good (k := k) hi hk
    have hq := nx_le l i (97 + c) hi
    rw [h1]
    unfold wth
    split
    · rw [ih _ (by omega) (nx l i (97 + c) + 1) rfl (by omega)]; rfl
    · rfl
theorem sub_short {l : List Nat} {k : Nat} : ∀ (u : List Nat) (i : Nat), i ≤ l.length → (∀ b ∈ u, 97 ≤ b ∧ b < 97 + k) → u.length < lst l k i → (wth l i u).isSome = true
  | [], i, hi, hu, h => rfl
  | b :: u, i, hi, hu, h => by
    obtain ⟨c, rfl⟩ : ∃ c, b = 97 + c := ⟨b - 97, by have := hu b (by simp); omega⟩
    have hc : c < k := by have := hu (97 + c) (by simp); omega
    have h1 := lst_next (k := k) hi hc
    rw [List.length_cons] at h
    have hq : nx l i (97 + c) + 1 ≤ l.length := by
      by_cases e : nx l i (97 + c) + 1 ≤ l.length
      · exact e
      · have : lst l k (nx l i (97 + c) + 1) = 0 := by unfold lst; rw [if_neg e]
        omega
    unfold wth
    rw [if_pos (by omega), Option.isSome_map]
    exact sub_short u _ hq (fun b hb => hu b (by simp [hb])) (by omega)
theorem lst_arch (l : List Nat) (k : Nat) : lst l k 0 = (arch l k 0).length + 1 := by unfold lst; rw [if_pos (Nat.zero_le _)]
end Go.Proofs.Ytagdbadljcongaa.X
end

section
/- The reference's search by places finds the first word that is a subsequence of one of two words: first by length, then by letters. -/
set_option linter.unusedVariables false
set_option linter.unusedSimpArgs false
namespace Go.Proofs.Ytagdbadljcongaa.X
open Go.RowKit Go.Proofs.YtagdbadljcongaaW.PrintWords
/-- A number for a word: the order of the numbers is that of the words. -/
def key (x : List Nat) : Nat := x.foldl (fun a b => a * 5 + (b - 96)) 0
theorem key_app (x : List Nat) (c : Nat) : key (x ++ [c]) = key x * 5 + (c - 96) := by unfold key; rw [List.foldl_append]; rfl
theorem key_from (x : List Nat) : ∀ a : Nat, x.foldl (fun a b => a * 5 + (b - 96)) a = a * 5 ^ x.length + key x := by
  induction x with
  | nil => intro a; simp [key]
  | cons b x ih =>
    intro a
    show x.foldl _ (a * 5 + (b - 96)) = a * 5 ^ (x.length + 1) + x.foldl _ (0 * 5 + (b - 96))
    rw [ih, ih (0 * 5 + (b - 96)), Nat.pow_succ, Nat.add_mul, Nat.add_mul, Nat.zero_mul, Nat.zero_add, Nat.mul_assoc, Nat.mul_comm 5, Nat.add_assoc]
theorem key_cons (b : Nat) (x : List Nat) : key (b :: x) = (b - 96) * 5 ^ x.length + key x := by
  show x.foldl _ (0 * 5 + (b - 96)) = _
  rw [key_from, Nat.zero_mul, Nat.zero_add]
/-- Words of the first k letters. -/
def Ltr (k : Nat) (x : List Nat) : Prop := ∀ b ∈ x, 97 ≤ b ∧ b < 97 + k
theorem Ltr.app {k : Nat} {x : List Nat} {c : Nat} (h : Ltr k x) (hc : c < k) : Ltr k (x ++ [97 + c]) := fun b hb => by
  rcases List.mem_append.1 hb with h1 | h1
  · exact h b h1
  · rw [List.mem_singleton] at h1; subst h1; omega
theorem Ltr.four {k : Nat} {x : List Nat} (h : Ltr k x) (hk : k ≤ 4) : Ltr 4 x := fun b hb => by have := h b hb; omega
theorem key_lt : ∀ {x : List Nat}, Ltr 4 x → key x < 5 ^ x.length
  | [], _ => by decide
  | b :: x, h => by
    have h1 := key_lt (x := x) fun b hb => h b (by simp [hb])
    have h2 := h b (by simp)
    rw [key_cons, List.length_cons, Nat.pow_succ]
    have h3 : (b - 96) * 5 ^ x.length ≤ 4 * 5 ^ x.length := Nat.mul_le_mul_right _ (by omega)
    omega
theorem key_ge : ∀ {x : List Nat}, Ltr 4 x → 5 ^ x.length ≤ 4 * key x + 1
  | [], _ => by decide
  | b :: x, h => by
    have h1 := key_ge (x := x) fun b hb => h b (by simp [hb])
    have h2 := h b (by simp)
    rw [key_cons, List.length_cons, Nat.pow_succ]
    have h3 : 1 * 5 ^ x.length ≤ (b - 96) * 5 ^ x.length := Nat.mul_le_mul_right _ (by omega)
    omega
theorem key_len {x y : List Nat} (hx : Ltr 4 x) (hy : Ltr 4 y) (h : key x ≤ key y) : x.length ≤ y.length := by
  rcases Nat.lt_or_ge y.length x.length with h1 | h1
  · exfalso
    have a := key_ge hx
    have b := key_lt hy
    have c : 5 ^ (y.length + 1) ≤ 5 ^ x.length := Nat.pow_le_pow_right (by decide) h1
    rw [Nat.pow_succ] at c
    omega
  · exact h1
theorem snoc_of {x : List Nat} {n : Nat} (h : x.length = n + 1) : ∃ y c, x = y ++ [c] ∧ y.length = n := by
  rcases List.eq_nil_or_concat x with rfl | ⟨y, c, rfl⟩
  · cases h
  · refine ⟨y, c, by simp, ?_⟩
    simpa using h
theorem key_inj : ∀ (n : Nat) (x y : List Nat), x.length = n → Ltr 4 x → Ltr 4 y → key x = key y → x = y
  | 0, x, y, hn, hx, hy, h => by
    have h1 := key_len hx hy (by omega)
    have h2 := key_len hy hx (by omega)
    rw [List.length_eq_zero_iff.1 hn, List.length_eq_zero_iff.1 (show y.length = 0 by omega)]
  | n + 1, x, y, hn, hx, hy, h => by
    have h1 := key_len hx hy (by omega)
    have h2 := key_len hy hx (by omega)
    obtain ⟨x, c, rfl, hx2⟩ := snoc_of hn
    obtain ⟨y, d, rfl, hy2⟩ := snoc_of (show y.length = n + 1 by omega)
    rw [key_app, key_app] at h
    have hc := hx c (by simp)
    have hd := hy d (by simp)
    rw [key_inj n x y hx2 (fun b hb => hx b (by simp [hb])) (fun b hb => hy b (by simp [hb])) (by omega), show c = d by omega]
/-- The place that a word reaches, or -1. -/
def rchS (l : List Nat) (i : Int) (c : Nat) : Int := if i < 0 then -1 else nxP l i.toNat c
def rch (l x : List Nat) : Int := x.foldl (rchS l) 0
theorem rch_app (l x : List Nat) (c : Nat) : rch l (x ++ [c]) = rchS l (rch l x) c := by unfold rch; rw [List.foldl_append]; rfl
theorem rch_out (l : List Nat) : ∀ x : List Nat, x.foldl (rchS l) (-1) = -1
  | [] => rfl
  | c :: x => rch_out l x
theorem rch_from (l : List Nat) : ∀ (x : List Nat) (i : Nat), (wth l i x).isSome = decide (0 ≤ x.foldl (rchS l) (i : Int))
  | [], i => by simp [wth]
  | c :: x, i => by
    show _ = decide (0 ≤ x.foldl (rchS l) (rchS l (i : Int) c))
    have e : rchS l (i : Int) c = nxP l i c := by unfold rchS; rw [if_neg (by omega), Int.toNat_natCast]
    rw [e]
    unfold wth
    by_cases h : nx l i c < l.length
    · rw [if_pos h, nxP_in h, Option.isSome_map, rch_from l x]
    · rw [if_neg h, nxP_out h, rch_out]; rfl
theorem rch_is (l x : List Nat) : (wth l 0 x).isSome = decide (0 ≤ rch l x) := rch_from l x 0
/-- Whether a word is a subsequence of one of two words. -/
def dst (u w x : List Nat) : Bool := (wth u 0 x).isSome != (wth w 0 x).isSome
theorem dif_dst {u w : List Nat} {r : Rn} (ha : r.a = rch u r.wd) (hb : r.b = rch w r.wd) : dif r = dst u w r.wd := by
  unfold dif dst
  rw [rch_is, rch_is, ha, hb]
  by_cases h1 : rch u r.wd < 0 <;> by_cases h2 : rch w r.wd < 0 <;> simp [h1, h2] <;> omega
/-- The search, with the first k letters. -/
def partK (u w : List Nat) (k most : Nat) : Nat → Nat → List Rn → Option (List Nat)
  | 0, _, _ => none
  | f + 1, q, R => match R[q]? with
    | none => none
    | some r => if dif r then some r.wd else if most ≤ r.wd.length ∨ r.a < 0 then partK u w k most f (q + 1) R
      else partK u w k most f (q + 1) (kids u w ⟨r.a.toNat, r.b.toNat, r.wd⟩ (List.range k) R)
/-- What holds of the list's entries. -/
structure EnOk (u w : List Nat) (k : Nat) (R : List Rn) : Prop where
  st : ∀ e ∈ R, e.a = rch u e.wd ∧ e.b = rch w e.wd
  lt : ∀ e ∈ R, Ltr k e.wd
  srt : R.Pairwise (fun x y => key x.wd < key y.wd)
/-- An entry for a letter's child. -/
def HasK (u w : List Nat) (R : List Rn) (r : Rn) (c : Nat) : Prop := ∃ e ∈ R, e.a = nxP u r.a.toNat (97 + c) ∧ e.b = nxP w r.b.toNat (97 + c) ∧ key e.wd ≤ key r.wd * 5 + (c + 1)
theorem HasK.mono {u w : List Nat} {R S : List Rn} {r : Rn} {c : Nat} (h : HasK u w R r c) : HasK u w (R ++ S) r c := by
  obtain ⟨e, he, h1⟩ := h
  exact ⟨e, List.mem_append_left _ he, h1⟩
theorem kids_en {u w : List Nat} {k : Nat} {r : Rn} (hra : 0 ≤ r.a) (hrb : 0 ≤ r.b) (hst : r.a = rch u r.wd ∧ r.b = rch w r.wd) (hlt : Ltr k r.wd) : ∀ (cs : List Nat) (R : List Rn), cs.Pairwise (· < ·) → (∀ c ∈ cs, c < k) → EnOk u w k R → (∀ e ∈ R, key e.wd ≤ key r.wd * 5 + k) → (∀ e ∈ R, ∀ c ∈ cs, key e.wd < key r.wd * 5 + (c + 1)) →
    ∃ S, kids u w ⟨r.a.toNat, r.b.toNat, r.wd⟩ cs R = R ++ S ∧ EnOk u w k (R ++ S) ∧ (∀ e ∈ R ++ S, key e.wd ≤ key r.wd * 5 + k) ∧ ∀ c ∈ cs, HasK u w (R ++ S) r c
  | [], R, _, _, h, hb, _ => ⟨[], by simp [kids], by simpa using h, by simpa using hb, by simp⟩
  | c :: cs, R, hp, hc, h, hb, hb2 => by
    obtain ⟨p1, p2⟩ := List.pairwise_cons.1 hp
    have hck := hc c (by simp)
    have hkid : kid u w ⟨r.a.toNat, r.b.toNat, r.wd⟩ c = ⟨nxP u r.a.toNat (97 + c), nxP w r.b.toNat (97 + c), r.wd ++ [97 + c]⟩ := rfl
    have hkey : key (r.wd ++ [97 + c]) = key r.wd * 5 + (c + 1) := by rw [key_app]; omega
    show ∃ S, kids u w ⟨r.a.toNat, r.b.toNat, r.wd⟩ cs (addK R (kid u w ⟨r.a.toNat, r.b.toNat, r.wd⟩ c)) = R ++ S ∧ _
    rw [hkid]
    unfold addK
    by_cases hh : hasP R (nxP u r.a.toNat (97 + c)) (nxP w r.b.toNat (97 + c)) = true
    · rw [if_pos hh]
      obtain ⟨S, i1, i2, i3, i4⟩ := kids_en hra hrb hst hlt cs R p2 (fun d hd => hc d (by simp [hd])) h hb (fun e he d hd => hb2 e he d (by simp [hd]))
      refine ⟨S, i1, i2, i3, fun d hd => ?_⟩
      rcases List.mem_cons.1 hd with rfl | hd
      · obtain ⟨e, he, h1⟩ := List.any_eq_true.1 hh
        simp at h1
        exact HasK.mono ⟨e, he, h1.1, h1.2, by have := hb2 e he d (by simp); omega⟩
      · exact i4 d hd
    · rw [if_neg hh]
      have hE : EnOk u w k (R ++ [⟨nxP u r.a.toNat (97 + c), nxP w r.b.toNat (97 + c), r.wd ++ [97 + c]⟩]) := by
        refine ⟨fun e he => ?_, fun e he => ?_, ?_⟩
        · rcases List.mem_append.1 he with he | he
          · exact h.st e he
          · rw [List.mem_singleton] at he
            subst he
            dsimp only
            rw [rch_app, rch_app, ← hst.1, ← hst.2]
            unfold rchS
            rw [if_neg (by omega), if_neg (by omega)]
            exact ⟨rfl, rfl⟩
        · rcases List.mem_append.1 he with he | he
          · exact h.lt e he
          · rw [List.mem_singleton] at he
            subst he
            exact hlt.app hck
        · rw [List.pairwise_append]
          refine ⟨h.srt, by simp, fun a ha b hb3 => ?_⟩
          rw [List.mem_singleton] at hb3
          subst hb3
          dsimp only
          rw [hkey]
          exact hb2 a ha c (by simp)
      obtain ⟨S, i1, i2, i3, i4⟩ := kids_en hra hrb hst hlt cs _ p2 (fun d hd => hc d (by simp [hd])) hE (fun e he => by
        rcases List.mem_append.1 he with he | he
        · exact hb e he
        · rw [List.mem_singleton] at he
          subst he
          dsimp only
          rw [hkey]
          omega) (fun e he d hd => by
        rcases List.mem_append.1 he with he | he
        · exact hb2 e he d (by simp [hd])
        · rw [List.mem_singleton] at he
          subst he
          dsimp only
          rw [hkey]
          have := p1 d hd
          omega)
      rw [List.append_assoc] at i1 i2 i3 i4
      refine ⟨_ :: S, i1, i2, i3, fun d hd => ?_⟩
      rcases List.mem_cons.1 hd with rfl | hd
      · exact ⟨_, List.mem_append_right _ (List.mem_cons_self), rfl, rfl, by rw [hkey]; omega⟩
      · exact i4 d hd
/-- What holds ahead of entry q. -/
structure PI (u w : List Nat) (k most q : Nat) (R : List Rn) : Prop where
  en : EnOk u w k R
  root : (⟨0, 0, []⟩ : Rn) ∈ R
  no : ∀ m, ∀ h : m < R.length, m < q → dif R[m] = false
  cl : ∀ m, ∀ h : m < R.length, m < q → ¬ (most ≤ (R[m]).wd.length ∨ (R[m]).a < 0) → ∀ c, c < k → HasK u w R R[m] c
  bd : ∀ h : q < R.length, ∀ e ∈ R, key e.wd < key (R[q]).wd * 5 + 1
theorem PI.start (u w : List Nat) (k most : Nat) : PI u w k most 0 [⟨0, 0, []⟩] := by
  refine ⟨⟨fun e he => ?_, fun e he => ?_, by simp⟩, by simp, fun m h h0 => by omega, fun m h h0 => by omega, fun h e he => ?_⟩
  all_goals
    rw [List.mem_singleton] at he
    subst he
  · exact ⟨rfl, rfl⟩
  · intro b hb; cases hb
  · show key [] < key [] * 5 + 1
    decide
theorem PI.next {u w : List Nat} {k most q : Nat} {R : List Rn} (h : PI u w k most q R) (S : List Rn) (hq : q < R.length) (hd : dif R[q] = false) (hE : EnOk u w k (R ++ S)) (hc : ¬ (most ≤ (R[q]).wd.length ∨ (R[q]).a < 0) → ∀ c, c < k → HasK u w (R ++ S) R[q] c) (hb : ∀ e ∈ R ++ S, key e.wd ≤ key (R[q]).wd * 5 + 4) : PI u w k most (q + 1) (R ++ S) := by
  have lt : ∀ m, m < q + 1 → m < R.length := fun m hm => by omega
  refine ⟨hE, List.mem_append_left _ h.root, fun m hm hmq => ?_, fun m hm hmq hn c hck => ?_, fun hm e he => ?_⟩
  · rw [List.getElem_append_left (lt m hmq)]
    by_cases e : m = q
    · subst e; exact hd
    · exact h.no m (lt m hmq) (by omega)
  · rw [List.getElem_append_left (lt m hmq)] at hn ⊢
    by_cases e : m = q
    · subst e; exact hc hn c hck
    · exact (h.cl m (lt m hmq) (by omega) hn c hck).mono
  · have h1 := hb e he
    have h2 := List.pairwise_iff_getElem.1 hE.srt q (q + 1) (by rw [List.length_append]; omega) hm (by omega)
    rw [List.getElem_append_left hq] at h2
    omega
theorem PI.step {u w : List Nat} {k most q : Nat} {R : List Rn} (hk4 : k ≤ 4) (h : PI u w k most q R) (hq : q < R.length) (hd : dif R[q] = false) :
    PI u w k most (q + 1) (if most ≤ (R[q]).wd.length ∨ (R[q]).a < 0 then R else kids u w ⟨(R[q]).a.toNat, (R[q]).b.toNat, (R[q]).wd⟩ (List.range k) R) := by
  have hb := h.bd hq
  split
  · rename_i ho
    have := h.next [] hq hd (by rw [List.append_nil]; exact h.en) (fun hn => absurd ho hn) (by rw [List.append_nil]; intro e he; have := hb e he; omega)
    rwa [List.append_nil] at this
  · rename_i ho
    have hm := List.getElem_mem hq
    have hb0 : 0 ≤ (R[q]).b := by
      unfold dif at hd
      simp at hd
      omega
    obtain ⟨S, i1, i2, i3, i4⟩ := kids_en (k := k) (by omega) hb0 (h.en.st _ hm) (h.en.lt _ hm) (List.range k) R List.pairwise_lt_range (fun c hc => List.mem_range.1 hc) h.en (fun e he => by have := hb e he; have := h.en.lt; omega) (fun e he c hc => by have := hb e he; omega)
    rw [i1]
    exact h.next S hq hd i2 (fun _ c hc => i4 c (List.mem_range.2 hc)) (fun e he => by have := i3 e he; omega)
/-- Words before the bound lead to entries before q. -/
theorem PI.pre {u w : List Nat} {k most q B : Nat} {R : List Rn} (hk4 : k ≤ 4) (h : PI u w k most q R) (hB : ∀ m, ∀ hm : m < R.length, key (R[m]).wd < B → m < q) : ∀ (n : Nat) (x : List Nat), x.length = n → Ltr k x → x.length ≤ most → key x < B → dst u w x = false ∧ (0 ≤ rch u x → ∃ e ∈ R, e.a = rch u x ∧ e.b = rch w x ∧ key e.wd ≤ key x)
  | 0, x, hn, hx, hm, hk => by
    rw [List.length_eq_zero_iff.1 hn]
    exact ⟨rfl, fun _ => ⟨_, h.root, rfl, rfl, Nat.le_refl _⟩⟩
  | n + 1, x, hn, hx, hm, hk => by
    obtain ⟨y, b, rfl, hy⟩ := snoc_of hn
    have hyl : Ltr k y := fun a ha => hx a (by simp [ha])
    obtain ⟨c, rfl⟩ : ∃ c, b = 97 + c := ⟨b - 97, by have := hx b (by simp); omega⟩
    have hc : c < k := by have := hx (97 + c) (by simp); omega
    rw [key_app] at hk ⊢
    obtain ⟨i1, i2⟩ := PI.pre hk4 h hB n y hy hyl (by omega) (by omega)
    have hx1 : dst u w (y ++ [97 + c]) = (decide (0 ≤ rch u (y ++ [97 + c])) != decide (0 ≤ rch w (y ++ [97 + c]))) := by unfold dst; rw [rch_is, rch_is]
    have hy1 : dst u w y = (decide (0 ≤ rch u y) != decide (0 ≤ rch w y)) := by unfold dst; rw [rch_is, rch_is]
    rw [hy1] at i1
    rw [hx1, rch_app, rch_app]
    by_cases h0 : 0 ≤ rch u y
    · have h0w : 0 ≤ rch w y := by simpa [h0] using i1
      obtain ⟨e, he, e1, e2, e3⟩ := i2 h0
      obtain ⟨m, hmR, rfl⟩ := List.getElem_of_mem he
      have hmq := hB m hmR (by omega)
      have hlen := key_len ((h.en.lt _ he).four hk4) (hyl.four hk4) e3
      obtain ⟨e', he', f1, f2, f3⟩ := h.cl m hmR hmq (by rw [e1]; omega) c hc
      rw [e1] at f1
      rw [e2] at f2
      have g1 : rchS u (rch u y) (97 + c) = e'.a := by unfold rchS; rw [if_neg (by omega), f1]
      have g2 : rchS w (rch w y) (97 + c) = e'.b := by unfold rchS; rw [if_neg (by omega), f2]
      rw [g1, g2]
      refine ⟨?_, fun _ => ⟨e', he', rfl, rfl, by omega⟩⟩
      obtain ⟨m', hm', rfl⟩ := List.getElem_of_mem he'
      have hd := h.no m' hm' (hB m' hm' (by omega))
      unfold dif at hd
      by_cases a1 : (R[m']).a < 0 <;> by_cases a2 : (R[m']).b < 0 <;> simp [a1, a2] at hd ⊢ <;> omega
    · have h0w : ¬ 0 ≤ rch w y := by simpa [h0] using i1
      have g1 : rchS u (rch u y) (97 + c) = -1 := by unfold rchS; rw [if_pos (by omega)]
      have g2 : rchS w (rch w y) (97 + c) = -1 := by unfold rchS; rw [if_pos (by omega)]
      rw [g1, g2]
      exact ⟨rfl, fun h => absurd h (by decide)⟩
/-- The range of the entries, and that no two are alike. -/
structure RkOk (u w : List Nat) (M : Nat) (R : List Rn) : Prop where
  rng : ∀ r ∈ R, -1 ≤ r.a ∧ r.a ≤ u.length ∧ -1 ≤ r.b ∧ r.b ≤ w.length ∧ r.wd.length ≤ M
  nd : R.Pairwise (fun x y => ¬ (x.a = y.a ∧ x.b = y.b))
theorem RkOk.start (u w : List Nat) (M : Nat) : RkOk u w M [⟨0, 0, []⟩] := ⟨fun r hr => by rw [List.mem_singleton] at hr; subst hr; simp, by simp⟩
theorem RkOk.size {u w : List Nat} {M : Nat} {R : List Rn} (h : RkOk u w M R) (hu : u.length ≤ 60) (hw : w.length ≤ 244) : R.length ≤ 15252 := by
  have h1 := nodup_le (R.map fun r => ((r.a + 1).toNat) * 246 + (r.b + 1).toNat) (List.range 15252) (by
    rw [List.pairwise_map]
    refine h.nd.imp_of_mem fun {a b} ha hb hab e => hab ?_
    have := h.rng a ha; have := h.rng b hb
    omega) (fun x hx => by
    obtain ⟨e, he, rfl⟩ := List.mem_map.1 hx
    have := h.rng e he
    exact List.mem_range.2 (by omega))
  simpa using h1
theorem RkOk.add {u w : List Nat} {M : Nat} {R : List Rn} (h : RkOk u w M R) {p : Ent} {c : Nat} (hp : p.i ≤ u.length ∧ p.j ≤ w.length ∧ p.wd.length + 1 ≤ M) : RkOk u w M (addK R (kid u w p c)) := by
  unfold addK
  split
  · exact h
  · rename_i hn
    refine ⟨fun r hr => ?_, ?_⟩
    · rcases List.mem_append.1 hr with hr | hr
      · exact h.rng r hr
      · rw [List.mem_singleton] at hr
        subst hr
        have h1 := nx_le u p.i (97 + c) hp.1
        have h2 := nx_le w p.j (97 + c) hp.2.1
        unfold kid nxP
        refine ⟨?_, ?_, ?_, ?_, ?_⟩
        · dsimp only; split <;> omega
        · dsimp only; split <;> omega
        · dsimp only; split <;> omega
        · dsimp only; split <;> omega
        · simp; omega
    · rw [List.pairwise_append]
      refine ⟨h.nd, by simp, fun a ha b hb e => hn ?_⟩
      rw [List.mem_singleton] at hb
      subst hb
      exact List.any_eq_true.2 ⟨a, ha, by simp [e.1, e.2]⟩
theorem RkOk.kids {u w : List Nat} {M : Nat} {p : Ent} (hp : p.i ≤ u.length ∧ p.j ≤ w.length ∧ p.wd.length + 1 ≤ M) : ∀ (cs : List Nat) (R : List Rn), RkOk u w M R → RkOk u w M (kids u w p cs R)
  | [], R, h => h
  | c :: cs, R, h => RkOk.kids hp cs _ (h.add hp)
/-- The first word that tells two words apart. -/
structure First (u w : List Nat) (k most : Nat) (r : List Nat) : Prop where
  ltr : Ltr k r
  dst : dst u w r = true
  fst : ∀ x, Ltr k x → x.length ≤ most → X.dst u w x = true → key r ≤ key x
theorem part_spec {u w : List Nat} {k most : Nat} (hk4 : k ≤ 4) (hu : u.length ≤ 60) (hw : w.length ≤ 244) : ∀ (f q : Nat) (R : List Rn), PI u w k most q R → RkOk u w most R → q ≤ R.length → 15252 < f + q →
    (∃ r, partK u w k most f q R = some r ∧ First u w k most r) ∨ (partK u w k most f q R = none ∧ ∀ x, Ltr k x → x.length ≤ most → dst u w x = false)
  | 0, q, R, h, hO, hq, hf => by have := hO.size hu hw; omega
  | f + 1, q, R, h, hO, hq, hf => by
    unfold partK
    by_cases hlt : q < R.length
    · rw [List.getElem?_eq_getElem hlt]
      dsimp only
      cases hd : dif R[q] with
      | true =>
        left
        rw [if_pos rfl]
        have hm := List.getElem_mem hlt
        have hst := h.en.st _ hm
        refine ⟨_, rfl, h.en.lt _ hm, by rw [← dif_dst hst.1 hst.2, hd], fun x hx hxm hxd => ?_⟩
        rcases Nat.lt_or_ge (key x) (key (R[q]).wd) with hk | hk
        · exfalso
          have := (h.pre hk4 (B := key (R[q]).wd) (fun m hm hk => by
            rcases Nat.lt_or_ge m q with h1 | h1
            · exact h1
            · exfalso
              by_cases e : m = q
              · subst e; omega
              · have := List.pairwise_iff_getElem.1 h.en.srt q m hlt hm (by omega)
                omega) _ x rfl hx hxm hk).1
          rw [this] at hxd
          cases hxd
        · exact hk
      | false =>
        rw [if_neg (by decide)]
        have hs := h.step hk4 hlt hd
        have hrg := hO.rng _ (List.getElem_mem hlt)
        by_cases ho : most ≤ (R[q]).wd.length ∨ (R[q]).a < 0
        · rw [if_pos ho] at hs ⊢
          exact part_spec hk4 hu hw f (q + 1) R hs hO (by omega) (by omega)
        · rw [if_neg ho] at hs ⊢
          obtain ⟨S, hS⟩ := kids_pre u w ⟨(R[q]).a.toNat, (R[q]).b.toNat, (R[q]).wd⟩ (List.range k) R
          exact part_spec hk4 hu hw f (q + 1) _ hs (RkOk.kids (p := ⟨(R[q]).a.toNat, (R[q]).b.toNat, (R[q]).wd⟩) ⟨by dsimp only; omega, by dsimp only; omega, by dsimp only; omega⟩ _ R hO) (by rw [hS, List.length_append]; omega) (by omega)
    · right
      have hqe : q = R.length := by omega
      rw [List.getElem?_eq_none (by omega)]
      refine ⟨rfl, fun x hx hxm => (h.pre hk4 (B := key x + 1) (fun m hm _ => by omega) _ x rfl hx hxm (by omega)).1⟩
/-- The first word that is no subsequence comes before all others. -/
theorem abs_min {l : List Nat} {k : Nat} (hk : 1 ≤ k) (hk4 : k ≤ 4) : ∀ (n i : Nat), l.length + 1 - i = n → i ≤ l.length → ∀ x, Ltr k x → x.length = lst l k i → wth l i x = none → key (abs_ l k i) ≤ key x := by
  intro n
  induction n using Nat.strongRecOn with
  | _ n ih =>
    intro i hn hi x hx hxl hno
    obtain ⟨c, hc, h1, h2, h3⟩ := abs_good (k := k) hi hk
    have hal := abs_len (l := l) (k := k) hk _ (nx l i (97 + c) + 1) rfl
    cases x with
    | nil => cases hno
    | cons b x =>
      obtain ⟨d, rfl⟩ : ∃ d, b = 97 + d := ⟨b - 97, by have := hx b (by simp); omega⟩
      have hd : d < k := by have := hx (97 + d) (by simp); omega
      have hx2 : Ltr k x := fun b hb => hx b (by simp [hb])
      rw [List.length_cons] at hxl
      rw [h1, key_cons, key_cons, hal, show lst l k (nx l i (97 + c) + 1) = x.length by omega]
      have hzk := key_lt (x := abs_ l k (nx l i (97 + c) + 1)) (Ltr.four (k := k) (abs_ltr hk _ _ rfl) hk4)
      rw [hal, show lst l k (nx l i (97 + c) + 1) = x.length by omega] at hzk
      unfold wth at hno
      rcases Nat.lt_trichotomy d c with hdc | hdc | hdc
      · exfalso
        have h4 := h3 d hdc
        have hq : nx l i (97 + d) + 1 ≤ l.length := by
          by_cases e : nx l i (97 + d) + 1 ≤ l.length
          · exact e
          · have : lst l k (nx l i (97 + d) + 1) = 0 := by unfold lst; rw [if_neg e]
            omega
        rw [if_pos (by omega), Option.map_eq_none_iff] at hno
        have := sub_short (k := k) x _ hq hx2 (by omega)
        rw [hno] at this
        cases this
      · subst hdc
        by_cases hq : nx l i (97 + d) < l.length
        · rw [if_pos hq, Option.map_eq_none_iff] at hno
          have hq2 := nx_le l i (97 + d) hi
          have := ih _ (by omega) (nx l i (97 + d) + 1) rfl (by omega) x hx2 (by omega) hno
          omega
        · rw [abs_end (by omega)]
          have : key [] = 0 := rfl
          omega
      · have : (97 + c - 96 + 1) * 5 ^ x.length ≤ (97 + d - 96) * 5 ^ x.length := Nat.mul_le_mul_right _ (by omega)
        rw [Nat.add_mul, Nat.one_mul] at this
        omega
end Go.Proofs.Ytagdbadljcongaa.X
end
