/- serial.numbers, by hand: its closures hand out all numbers of at most five digits, the short ones first; what a round that goes on leaves is as it was. -/
import Derived.Test.YtdkncfmlehcjmaaTS14
import Derived.Test.YtdkncfmlehcjmaaTHRange
import Derived.Test.YtdkncfmlehcjmaaTHWith
import Derived.Shelf.Abstract
import Derived.Shelf.RegionOpen
import Derived.WalkKit
import Derived.OwnWalkIn
import Derived.TacticsInMore
import Derived.LoopNIn
import Derived.LoopIn
import Derived.WalkSpells
import Derived.Laws.EntriesVeiled
set_option linter.unusedVariables false
set_option linter.unusedSimpArgs false
namespace Go.Proofs.Ytdkncfmlehcjmaa.X
open Go Go.RowKit Go.Proofs.YtdkncfmlehcjmaaW.PrintWords Go.Proofs.YtdkncfmlehcjmaaW.PrintLast Go.Proofs.YtdkncfmlehcjmaaW.PrintMore
attribute [local go_sem] Oper.semAt_some
/-- The numbers that begin with p and have so many digits more. -/
def ext (n : Nat) : Nat → List Int → List (List Int)
  | 0, p => [p]
  | left + 1, p => (List.range n).flatMap fun (d : Nat) => ext n left (p ++ [(d : Int)])
def allTo (n s : Nat) : List (List Int) := (List.range s).flatMap fun s => ext n s []
/-- The closure's value: it holds yield, n and itself. -/
def numV (gy gn ge : Nat) : Value := .func (.func 81) #[] #[.pointer (some ⟨gy, 0, none⟩), .pointer (some ⟨gn, 0, none⟩), .pointer (some ⟨ge, 0, none⟩)]
/-- What the closure comes back with: true, and no number of xs has stopped it, and all is as it was; or false: one has. -/
def NumC (b0 : Nat) (No : List Int → Prop) (Jx : List Int → World → Prop) (xs : List (List Int)) (W w' : World) (b : Bool) : Prop :=
  (b = true → (∀ d ∈ xs, No d) ∧ Below W.heap.size W w') ∧ (b = false → (∃ pre d post, xs = pre ++ d :: post ∧ (∀ x ∈ pre, No x) ∧ Jx d w') ∧ KeptFrom b0 W w')
def NumP (b0 : Nat) (No : List Int → Prop) (Jx : List Int → World → Prop) (xs : List (List Int)) (W : World) (e : Ending) (w' : World) : Prop :=
  ∃ b : Bool, e = .returned (.bool b) ∧ NumC b0 No Jx xs W w' b
def YieldsAt (W0 : World) (l n : Nat) (No : List Int → Prop) (Jx : List Int → World → Prop) : Prop :=
  ∀ m v ds W1, Below W0.heap.size W0 W1 → Kd.R (Kd.int .i64) 3 W1 W0.heap.size (fun _ => True) v ds → digs ds n = true → ds.length ≤ 5 →
    YieldAt Fence.wide m Try.prog l #[v] W1 fun e W' => (e = .returned (.bool true) ∧ No ds ∧ Below W1.heap.size W1 W') ∨ (e = .returned (.bool false) ∧ Jx ds W' ∧ KeptFrom W0.heap.size W1 W')
set_option maxHeartbeats 4000000 in
set_option maxRecDepth 100000 in
theorem num_end (W0 : World) (l n gy gn ge : Nat) (No : List Int → Prop) (Jx : List Int → World → Prop) (HY : YieldsAt W0 l n No Jx) (A : Option Addr) (c : Nat) (ds : List Int) (W : World)
    (hb : Below W0.heap.size W0 W) (hy : W.heap[gy]? = some (.cells #[.func (.yield l) #[] #[]] 104 (0, 0))) (hR : Kd.R (Kd.int .i64) 3 W W0.heap.size (fun _ => True) (.slice A ds.length c) ds) (hd : digs ds n = true) (hl : ds.length ≤ 5) :
    Calls Try.prog 81 #[.slice A ds.length c, .int .i64 0, .pointer (some ⟨gy, 0, none⟩), .pointer (some ⟨gn, 0, none⟩), .pointer (some ⟨ge, 0, none⟩)] W (NumP W0.heap.size No Jx [ds] W) := by
  have hcy : W.cell? ⟨gy, 0, none⟩ = some (.func (.yield l) #[] #[]) := (blk_cell hy 0).trans rfl
  refine (callsIn_wide (n := 3)).1 (callsIn_of_wp Try.func81 rfl trivial ?_)
  simp only [Try.ntmps81, List.size_toArray, List.length_cons, List.length_nil, Nat.reduceAdd, Nat.reduceSub, Array.replicate_succ, Array.replicate_zero, List.push_toArray, List.append_toArray, List.nil_append, List.cons_append]
  obtain ⟨fn, tmps, assign, body, hyy, hRR⟩ := HY 2 (.slice A ds.length c) ds W hb hR hd hl
  clear hy hR hd hl HY hb
  gi_wp2
  refine hRR.mono ?_
  rintro e W' (⟨rfl, hno, hb⟩ | ⟨rfl, hjx, hkf⟩)
  · have HN := Aside0.mk hno
    have HB := Aside0.mk hb
    clear hno hb hRR hyy
    gi_wp2
    go_ret
    exact ⟨true, rfl, fun _ => ⟨by intro d hd; rw [List.mem_singleton] at hd; subst hd; exact HN.out, HB.out⟩, fun h => by cases h⟩
  · have HJ := Aside0.mk hjx
    have HK := Aside0.mk hkf
    clear hjx hRR hyy hkf
    gi_wp2
    go_ret
    exact ⟨false, rfl, fun h => (by cases h), fun _ => ⟨⟨[], ds, [], rfl, by simp, HJ.out⟩, HK.out⟩⟩
theorem c_new1 (W : World) (x : Int) : Kd.C (Kd.int .i64) (W.alloc (.cells #[.int .i64 x] 3)) (some ⟨W.heap.size, 0, none⟩) 1 [x] :=
  (Kd.R_reads' (A := some ⟨W.heap.size, 0, none⟩) (n := 1) (c := 1) (xs := [x]) (e := 3) (base := 0) (ok := fun _ => True) (show Kd.R (Kd.int .i64) 3 _ 0 (fun _ => True) (.slice (some ⟨W.heap.size, 0, none⟩) 1 1) [x] from
    ⟨fun _ _ => trivial, [.int .i64 x], ⟨rfl, .inr ⟨W.heap.size, 1, #[.int .i64 x], rfl, Nat.zero_le _, blk_new _ _, Nat.le_refl _, by decide, rfl, rfl⟩⟩, Reps.one (show Kd.M (Kd.int .i64) _ _ _ x [.int .i64 x] from rfl) (Reps.none _ _)⟩)).2.2
theorem digs_snoc {p : List Int} {n : Nat} (h : digs p n = true) (x : Nat) (hx : x < n) : digs (p ++ [(x : Int)]) n = true := by
  unfold digs at h ⊢
  rw [List.all_append, h]
  simp; omega
theorem kce {wr w' : World} {gy gn ge : Nat} (h : wr.heap[ge]? = some (.cells #[numV gy gn ge] 105 (0, 0))) (hb : Below wr.heap.size wr w') : w'.cell? ⟨ge, 0, none⟩ = some (.func (.func 81) #[] #[.pointer (some ⟨gy, 0, none⟩), .pointer (some ⟨gn, 0, none⟩), .pointer (some ⟨ge, 0, none⟩)]) :=
  (blk_cell (blk_below h hb) 0).trans rfl
theorem kce_c {b0 : Nat} {No : List Int → Prop} {Jx : List Int → World → Prop} {xs : List (List Int)} {wr w6 w' : World} {b : Bool} {gy gn ge : Nat} (hg : b0 ≤ ge) (h : wr.heap[ge]? = some (.cells #[numV gy gn ge] 105 (0, 0))) (hb : Below wr.heap.size wr w6) (hc : NumC b0 No Jx xs w6 w' b) : w'.cell? ⟨ge, 0, none⟩ = some (.func (.func 81) #[] #[.pointer (some ⟨gy, 0, none⟩), .pointer (some ⟨gn, 0, none⟩), .pointer (some ⟨ge, 0, none⟩)]) := by
  have h6 := blk_below h hb
  refine (blk_cell (w := w') (show w'.heap[ge]? = some (.cells #[numV gy gn ge] 105 (0, 0)) from ?_) 0).trans rfl
  cases b with
  | true => exact blk_below h6 (hc.1 rfl).2
  | false => exact ((hc.2 rfl).2 ge hg (Array.getElem?_eq_some_iff.1 h6).1).trans h6
theorem no_snoc {No : List Int → Prop} {F : Nat → List (List Int)} {x : Nat} (h : ∀ d ∈ (List.range x).flatMap F, No d) (h2 : ∀ d ∈ F x, No d) : ∀ d ∈ (List.range (x + 1)).flatMap F, No d := by
  intro d hd
  rw [List.range_succ, List.flatMap_append, List.mem_append] at hd
  rcases hd with hd | hd
  · exact h d hd
  · exact h2 d (by simpa using hd)
theorem fall_snoc {b0 n left x : Nat} {No : List Int → Prop} {Jx : List Int → World → Prop} {p nx : List Int} {W w6 w' : World} (hx : x < n) (h : ∀ d ∈ (List.range x).flatMap (fun (d : Nat) => ext n left (p ++ [(d : Int)])), No d) (hnx : nx = p ++ [(x : Int)]) (hb : Below W.heap.size W w6)
    (hc : (∃ pre d post, ext n left nx = pre ++ d :: post ∧ (∀ x ∈ pre, No x) ∧ Jx d w') ∧ KeptFrom b0 w6 w') : (∃ pre d post, ext n (left + 1) p = pre ++ d :: post ∧ (∀ x ∈ pre, No x) ∧ Jx d w') ∧ KeptFrom b0 W w' := by
  obtain ⟨⟨pre, d, post, h1, h2, h3⟩, h4⟩ := hc
  refine ⟨⟨(List.range x).flatMap (fun (d : Nat) => ext n left (p ++ [(d : Int)])) ++ pre, d, post ++ (List.range' (x + 1) (n - x - 1)).flatMap (fun (d : Nat) => ext n left (p ++ [(d : Int)])), ?_, ?_, h3⟩, fun k hk1 hk2 => (h4 k hk1 (Nat.lt_of_lt_of_le hk2 hb.size)).trans (hb.block k hk2)⟩
  · have e : List.range n = List.range x ++ (x :: List.range' (x + 1) (n - x - 1)) := by
      rw [List.range_eq_range', List.range_eq_range', show n = x + (n - x - 1 + 1) by omega, List.range'_append_1.symm, List.range'_succ]
      simp
    show (List.range n).flatMap _ = _
    rw [e, List.flatMap_append, List.flatMap_cons, ← hnx, h1]
    simp
  · intro y hy
    rcases List.mem_append.1 hy with hy | hy
    · exact h y hy
    · exact h2 y hy
set_option maxHeartbeats 8000000 in
set_option maxRecDepth 100000 in
theorem num_step (W0 : World) (l n gy gn ge : Nat) (No : List Int → Prop) (Jx : List Int → World → Prop) (hn : n ≤ 12) (hgb : W0.heap.size ≤ ge) (left : Nat) (p : List Int) (hpl : p.length + left ≤ 4) (hd : digs p n = true)
    (ih : ∀ (A : Option Addr) (c : Nat) (ds : List Int) (W : World), ds.length + left ≤ 5 → digs ds n = true → Below W0.heap.size W0 W → W.heap[gy]? = some (.cells #[.func (.yield l) #[] #[]] 104 (0, 0)) → W.heap[gn]? = some (.cells #[.int .i64 n] 3 (0, 0)) → W.heap[ge]? = some (.cells #[numV gy gn ge] 105 (0, 0)) → Kd.R (Kd.int .i64) 3 W W0.heap.size (fun _ => True) (.slice A ds.length c) ds →
      Calls Try.prog 81 #[.slice A ds.length c, .int .i64 left, .pointer (some ⟨gy, 0, none⟩), .pointer (some ⟨gn, 0, none⟩), .pointer (some ⟨ge, 0, none⟩)] W (NumP W0.heap.size No Jx (ext n left ds) W))
    (A : Option Addr) (c : Nat) (W : World) (hb : Below W0.heap.size W0 W) (hy : W.heap[gy]? = some (.cells #[.func (.yield l) #[] #[]] 104 (0, 0))) (hgn : W.heap[gn]? = some (.cells #[.int .i64 n] 3 (0, 0))) (hge : W.heap[ge]? = some (.cells #[numV gy gn ge] 105 (0, 0))) (hR : Kd.R (Kd.int .i64) 3 W W0.heap.size (fun _ => True) (.slice A p.length c) p) (hA : A = none → p = []) :
    Calls Try.prog 81 #[.slice A p.length c, .int .i64 ((left + 1 : Nat) : Int), .pointer (some ⟨gy, 0, none⟩), .pointer (some ⟨gn, 0, none⟩), .pointer (some ⟨ge, 0, none⟩)] W (NumP W0.heap.size No Jx (ext n (left + 1) p) W) := by
  have HR := Aside0.mk hR
  have HW := Aside0.mk hb
  have HY := Aside0.mk hy
  have HN := Aside0.mk hgn
  have HE := Aside0.mk hge
  have HAA := Aside0.mk hA
  have IH := Aside0.mk ih
  have HPL := Aside0.mk hpl
  have HD := Aside0.mk hd
  have HN12 := Aside0.mk hn
  have hcn : W.cell? ⟨gn, 0, none⟩ = some (.int .i64 n) := (blk_cell hgn 0).trans rfl
  have hb0 : ((((left + 1 : Nat) : Int)) == 0) = false := by simp; omega
  obtain ⟨lf, hlf⟩ : ∃ lf : Int, ((left + 1 : Nat) : Int) = lf := ⟨_, rfl⟩
  have HLF := Aside0.mk hlf
  rw [hlf] at hb0 ⊢
  have hsub : IntKind.i64.wrap (lf - 1) = (left : Int) := by rw [IntKind.wrap_i64]; omega
  have HB := Aside0.mk (Below.refl W.heap.size W)
  have HNo : Aside0 (∀ d ∈ (List.range 0).flatMap (fun (d : Nat) => ext n left (p ++ [(d : Int)])), No d) := ⟨by simp⟩
  clear hR hb hy hgn hge hA ih hpl hd hn hlf
  go_enter Try.func81, Try.ntmps81
  go_wp2
  go_loopg [15] n (fun kq v15 w' => ∃ x : Nat, v15 = .int .i64 x ∧ Aside0 (kq + x = n) ∧ Aside0 (∀ d ∈ (List.range x).flatMap (fun (d : Nat) => ext n left (p ++ [(d : Int)])), No d) ∧ Aside0 (Below W.heap.size W w'))
  case atStart => exact ⟨0, rfl, ⟨by omega⟩, HNo, HB⟩
  case round =>
    clear HB HNo
    obtain ⟨x, rfl, HK, HNo, HB⟩ := hrel
    obtain ⟨k1, rfl⟩ : ∃ k1, k1 = gk := ⟨_, rfl⟩
    by_cases hx : x < n
    · have hxb : (x < n) = True := eq_true hx
      have HX := Aside0.mk hx
      clear hx
      go_upto_region 6 with (fail)
      have HEr := Aside0.mk (blk_below HE.out HB.out)
      have hce : wr.cell? ⟨ge, 0, none⟩ = some (.func (.func 81) #[] #[.pointer (some ⟨gy, 0, none⟩), .pointer (some ⟨gn, 0, none⟩), .pointer (some ⟨ge, 0, none⟩)]) := (blk_cell HEr.out 0).trans rfl
      have hB1 := Aside0.mk (Below.refl wr.heap.size wr)
      have hCl := Aside0.mk (Kd.C_below (Kd.R_reads' HR.out).2.2 HB.out)
      have hL : p.length ≤ 1000000 := by have := HPL.out; omega
      have HL := Aside0.mk hL
      clear hL
      obtain ⟨nx, hnx⟩ : ∃ nx, nx = p ++ [(x : Int)] := ⟨_, rfl⟩
      have HNX := Aside0.mk hnx
      clear hnx
      have HWr := Aside0.mk (HW.out.trans (HB.out.mono HW.out.size))
      go_region_held3 (fun w' => w'.cell? ⟨ge, 0, none⟩ = some (.func (.func 81) #[] #[.pointer (some ⟨gy, 0, none⟩), .pointer (some ⟨gn, 0, none⟩), .pointer (some ⟨ge, 0, none⟩)])) (first | exact hce | exact kce HEr.out (below_alloc hB1.out _) | exact kce HEr.out (below_alloc (below_drew hB1.out) _) | exact kce HEr.out HB6.out | exact kce HEr.out HB5.out | exact kce HEr.out (below_alloc HB5.out _) | exact kce_c hgb HEr.out HB6.out hend)
        (first | (go_at_call 82; (with_reducible refine (cloneN_calls A c p _ ?side1 HAA.out HL.out).mono ?_); (case side1 => exact Kd.C_below hCl.out (by first | exact hB1.out | exact below_drew hB1.out | exact below_alloc hB1.out _ | exact below_alloc (below_drew hB1.out) _)); rintro e w5 ⟨v1, rfl, ho, hb⟩; have HB5 := Aside0.mk (below_step (by first | exact hB1.out | exact below_drew hB1.out | exact below_alloc hB1.out _ | exact below_alloc (below_drew hB1.out) _) hb); have HO5 := Aside0.mk (Kd.R_lower ho (below_size (by first | exact hB1.out | exact below_drew hB1.out | exact below_alloc hB1.out _ | exact below_alloc (below_drew hB1.out) _))); have HBc := Aside0.mk hb; clear ho hb) | (refine Kd.R_append_rows_step (Kd.int .i64) (w0 := wr) wr.heap.size (by rfl) (.tmp 20) (.tmp 22) 94 3 (.int .i64 0) 8 (by rfl) Try.underlying94 info3 (by rfl) (by decide) (by omega) v1 p [(x : Int)] _ 1 1 (fun _ => True) (fun _ => False) (by rfl) (by rfl) ?aO ?aR (fun _ _ h => h) (fun _ h => h.elim) ?aF ?aB ?aS ?aL ?_; (case aO => first | exact HO5.out | exact Kd.R_alloc HO5.out _); (case aR => first | exact c_new1 _ _ | exact Kd.C_below (c_new1 _ _) HBc.out | exact Kd.C_below (Kd.C_drew (c_new1 _ _)) HBc.out); (case aF => exact fun _ _ => trivial); (case aB => first | exact HB5.out | exact below_alloc HB5.out _); (case aS => first | exact below_size HB5.out | exact below_size (below_alloc HB5.out _)); (case aL => have := HL.out; omega); intro v2 w6 ho hb hg hat; have HB6 := Aside0.mk hb; rw [← HNX.out] at ho; have HO6 := Aside0.mk ho; clear ho hb hg hat HBc HO5; obtain ⟨A2, c2, rfl⟩ := Kd.R_slice HO6.out) | (go_at_call 81; (with_reducible refine (IH.out A2 c2 nx _ ?s1 ?s2 ?s3 ?s4 ?s5 ?s6 ?s7).mono ?_); (case s1 => have := HPL.out; rw [HNX.out, List.length_append]; simp; omega); (case s2 => rw [HNX.out]; exact digs_snoc HD.out x HX.out); (case s3 => exact HWr.out.trans (HB6.out.mono HWr.out.size)); (case s4 => exact blk_below (blk_below HY.out HB.out) HB6.out); (case s5 => exact blk_below (blk_below HN.out HB.out) HB6.out); (case s6 => exact blk_below HEr.out HB6.out); (case s7 => exact Kd.R_lower HO6.out HWr.out.size); rintro e w10 ⟨b, rfl, hend⟩))
      all_goals
        have HEND := Aside0.mk hend
        clear hend
        cases b with
        | true =>
          go_wp2
          go_roundg (k1 - 1)
          case measure => have := HK.out; have := HX.out; omega
          case rel => exact ⟨x + 1, (by have h1 := HX.out; have h2 := HN12.out; first | (rw [w64 (by omega) (by omega)]; rfl) | (rw [IntKind.wrap_i64, w64 (by omega) (by omega)]; rfl) | go_num), ⟨by have := HK.out; have := HX.out; omega⟩, ⟨no_snoc HNo.out (by rw [← HNX.out]; exact (HEND.out.1 rfl).1)⟩, ⟨below_step HB.out (below_step HB6.out (HEND.out.1 rfl).2)⟩⟩
        | false =>
          go_wp2
          go_ret
          exact ⟨false, rfl, fun h => (by cases h), fun _ => fall_snoc HX.out HNo.out HNX.out (below_step HB.out HB6.out) (HEND.out.2 rfl)⟩
    · have hxb : (x < n) = False := eq_false hx
      have hxe : x = n := by have := HK.out; omega
      have HXE := Aside0.mk hxe
      clear hx hxe
      go_wp2
      go_ret
      exact ⟨true, rfl, fun _ => ⟨by have h1 := HNo.out; have h2 := HXE.out; subst h2; exact h1, HB.out⟩, fun h => by cases h⟩
theorem num_calls (W0 : World) (l n gy gn ge : Nat) (No : List Int → Prop) (Jx : List Int → World → Prop) (HY : YieldsAt W0 l n No Jx) (hn : n ≤ 12) (hgb : W0.heap.size ≤ ge) (left : Nat) :
    ∀ (A : Option Addr) (c : Nat) (ds : List Int) (W : World), ds.length + left ≤ 5 → digs ds n = true → Below W0.heap.size W0 W → W.heap[gy]? = some (.cells #[.func (.yield l) #[] #[]] 104 (0, 0)) → W.heap[gn]? = some (.cells #[.int .i64 n] 3 (0, 0)) → W.heap[ge]? = some (.cells #[numV gy gn ge] 105 (0, 0)) → Kd.R (Kd.int .i64) 3 W W0.heap.size (fun _ => True) (.slice A ds.length c) ds →
      Calls Try.prog 81 #[.slice A ds.length c, .int .i64 left, .pointer (some ⟨gy, 0, none⟩), .pointer (some ⟨gn, 0, none⟩), .pointer (some ⟨ge, 0, none⟩)] W (NumP W0.heap.size No Jx (ext n left ds) W) := by
  induction left with
  | zero => intro A c ds W hl hd hb hy hgn hge hR; exact num_end W0 l n gy gn ge No Jx HY A c ds W hb hy hR hd (by omega)
  | succ left ih =>
    intro A c ds W hl hd hb hy hgn hge hR
    refine num_step W0 l n gy gn ge No Jx hn hgb left ds (by omega) hd ih A c W hb hy hgn hge hR (fun hA => ?_)
    rcases Nat.eq_zero_or_pos ds.length with h | h
    · exact List.eq_nil_of_length_eq_zero h
    · obtain ⟨g, cap, he, _⟩ := Kd.R_form hR h
      rw [hA] at he; injection he with h1 _ _; cases h1
theorem allTo_succ (n s : Nat) : allTo n (s + 1) = allTo n s ++ ext n s [] := by simp [allTo, List.range_succ]
theorem fall_all {b0 n s : Nat} {No : List Int → Prop} {Jx : List Int → World → Prop} {W w' : World} (h : ∀ d ∈ allTo n s, No d) (hs : s < 6)
    (hc : (∃ pre d post, ext n s [] = pre ++ d :: post ∧ (∀ x ∈ pre, No x) ∧ Jx d w') ∧ KeptFrom b0 W w') : ∃ pre d post, allTo n 6 = pre ++ d :: post ∧ (∀ x ∈ pre, No x) ∧ Jx d w' := by
  obtain ⟨⟨pre, d, post, h1, h2, h3⟩, _⟩ := hc
  refine ⟨allTo n s ++ pre, d, post ++ (List.range' (s + 1) (6 - s - 1)).flatMap (fun s => ext n s []), ?_, ?_, h3⟩
  · have e : List.range 6 = List.range s ++ (s :: List.range' (s + 1) (6 - s - 1)) := by
      rw [List.range_eq_range', List.range_eq_range', show 6 = s + (6 - s - 1 + 1) by omega, List.range'_append_1.symm, List.range'_succ]
      simp
    unfold allTo
    rw [e, List.flatMap_append, List.flatMap_cons, h1]
    simp
  · intro y hy
    rcases List.mem_append.1 hy with hy | hy
    · exact h y hy
    · exact h2 y hy
set_option maxHeartbeats 8000000 in
set_option maxRecDepth 100000 in
theorem num_all (W : World) (l n gn : Nat) (No : List Int → Prop) (Jx : List Int → World → Prop) (HY : YieldsAt W l n No Jx) (hn : n ≤ 12) (hgn : W.heap[gn]? = some (.cells #[.int .i64 n] 3 (0, 0))) :
    Calls Try.prog 80 #[.func (.yield l) #[] #[], .pointer (some ⟨gn, 0, none⟩)] W fun e w' => (∃ v, e = .returned v) ∧ (((∀ d ∈ allTo n 6, No d) ∧ Below W.heap.size W w') ∨ (∃ pre d post, allTo n 6 = pre ++ d :: post ∧ (∀ x ∈ pre, No x) ∧ Jx d w')) := by
  have HYY := Aside0.mk HY
  have HN12 := Aside0.mk hn
  have HN := Aside0.mk hgn
  have HB := Aside0.mk (Below.refl W.heap.size W)
  clear HY hn hgn
  go_enter Try.func80, Try.ntmps80
  go_wp2
  obtain ⟨W3, hW3⟩ : ∃ W3, ((W.alloc (.cells #[.func (.yield l) #[] #[]] 104)).alloc (.cells #[numV W.heap.size gn (W.heap.size + 1)] 105)) = W3 := ⟨_, rfl⟩
  have e0 : W3.heap[W.heap.size]? = some (.cells #[.func (.yield l) #[] #[]] 104 (0, 0)) := by rw [← hW3]; exact blk_alloc (blk_new W _) _
  have e1 : W3.heap[W.heap.size + 1]? = some (.cells #[numV W.heap.size gn (W.heap.size + 1)] 105 (0, 0)) := by rw [← hW3]; have := blk_new (W.alloc (.cells #[.func (.yield l) #[] #[]] 104)) (.cells #[numV W.heap.size gn (W.heap.size + 1)] 105); rwa [World.size_alloc] at this
  have HB3 : Aside0 (Below W.heap.size W W3) := ⟨by rw [← hW3]; exact below_alloc (below_alloc HB.out _) _⟩
  have e2 : W3.heap[gn]? = some (.cells #[.int .i64 n] 3 (0, 0)) := blk_below HN.out HB3.out
  rw [show ((W.alloc (.cells #[.func (.yield l) #[] #[]] 104)).alloc (.cells #[.func (.func 81) #[] #[.pointer (some ⟨W.heap.size, 0, none⟩), .pointer (some ⟨gn, 0, none⟩), .pointer (some ⟨W.heap.size + 1, 0, none⟩)]] 105)) = W3 from hW3]
  have E0 := Aside0.mk e0
  have E1 := Aside0.mk e1
  have E2 := Aside0.mk e2
  have HBr := Aside0.mk (Below.refl W3.heap.size W3)
  have HNo : Aside0 (∀ d ∈ allTo n 0, No d) := ⟨by simp [allTo]⟩
  clear e0 e1 e2 hW3 HB
  go_loopg [6] 6 (fun kq v6 w' => ∃ x : Nat, v6 = .int .i64 x ∧ Aside0 (kq + x = 6) ∧ Aside0 (∀ d ∈ allTo n x, No d) ∧ Aside0 (Below W3.heap.size W3 w'))
  case atStart => exact ⟨0, rfl, ⟨rfl⟩, HNo, HBr⟩
  case round =>
    clear HBr HNo
    obtain ⟨x, rfl, HK, HNo, HB⟩ := hrel
    obtain ⟨k1, rfl⟩ : ∃ k1, k1 = gk := ⟨_, rfl⟩
    by_cases hx : x < 6
    · have hxb : ((x : Int) < 6) = True := eq_true (by omega)
      have HX := Aside0.mk hx
      clear hx
      have hce : wr.cell? ⟨W.heap.size + 1, 0, none⟩ = some (.func (.func 81) #[] #[.pointer (some ⟨W.heap.size, 0, none⟩), .pointer (some ⟨gn, 0, none⟩), .pointer (some ⟨W.heap.size + 1, 0, none⟩)]) := kce E1.out HB.out
      have IH : Aside0 (Calls Try.prog 81 #[.slice none 0 0, .int .i64 x, .pointer (some ⟨W.heap.size, 0, none⟩), .pointer (some ⟨gn, 0, none⟩), .pointer (some ⟨W.heap.size + 1, 0, none⟩)] wr (NumP W.heap.size No Jx (ext n x []) wr)) := Aside0.mk (num_calls W l n W.heap.size gn (W.heap.size + 1) No Jx HYY.out HN12.out (Nat.le_succ _) x none 0 [] wr (by have := HX.out; simp; omega) rfl (HB3.out.trans (HB.out.mono HB3.out.size)) (blk_below E0.out HB.out) (blk_below E2.out HB.out) (blk_below E1.out HB.out) (Kd.R_nil _ _ _ _ _))
      go_wp2_with (go_at_call 81; (with_reducible refine IH.out.mono ?_); rintro e w10 ⟨b, rfl, hend⟩; have HEND := Aside0.mk hend; clear hend)
      · have hbb : b = false := by have h : (!b) = true := by assumption
                                   simpa using h
        subst hbb
        refine bodyPost_ret (results_none rfl _ _ _) rfl ?_
        exact ⟨⟨_, rfl⟩, .inr (fall_all HNo.out HX.out (HEND.out.2 rfl))⟩
      · have hbb : b = true := by have h : (!b) = false := by assumption
                                  simpa using h
        subst hbb
        go_roundg (k1 - 1)
        case measure => have := HK.out; have := HX.out; omega
        case rel => exact ⟨x + 1, (by have h1 := HX.out; first | (rw [w64 (by omega) (by omega)]; rfl) | (rw [IntKind.wrap_i64, w64 (by omega) (by omega)]; rfl) | go_num), ⟨by have := HK.out; have := HX.out; omega⟩, ⟨by rw [allTo_succ]; intro d hd; rcases List.mem_append.1 hd with hd | hd; exact HNo.out d hd; exact (HEND.out.1 rfl).1 d hd⟩, ⟨below_step HB.out (HEND.out.1 rfl).2⟩⟩
    · have hxb : ((x : Int) < 6) = False := eq_false (by omega)
      have hxe : x = 6 := by have := HK.out; omega
      subst hxe
      clear hx
      go_wp2
      go_end0
      exact ⟨⟨_, rfl⟩, .inl ⟨HNo.out, HB3.out.trans (HB.out.mono HB3.out.size)⟩⟩
/-- What the iterator hands out: a number in memory of its own. -/
def NumG (n : Nat) (b : Nat) (x : Value × List Int) (W : World) : Prop := Kd.R (Kd.int .i64) 3 W b (fun _ => True) x.1 x.2 ∧ digs x.2 n = true ∧ x.2.length ≤ 5
theorem numbers_seq (m n gn : Nat) (w : World) (hn : n ≤ 12) (hgn : w.heap[gn]? = some (.cells #[.int .i64 n] 3 (0, 0))) :
    SeqR (α := Value × List Int) Fence.wide m Try.prog 80 #[.pointer (some ⟨gn, 0, none⟩)] (fun x => #[x.1]) (NumG n) (fun No => ∀ d ∈ allTo n 6, ∃ v, No (v, d)) (fun No x => ∃ pre post, allTo n 6 = pre ++ x.2 :: post ∧ ∀ y ∈ pre, ∃ v, No (v, y)) w := by
  intro l No Jx W hW hl hY
  have hYY : YieldsAt W l n (fun d => ∃ v, No (v, d)) (fun d w' => ∃ v, Jx (v, d) w') := by
    intro m' v ds W1 hb hR hd hlen
    obtain ⟨fn, tmps, assign, body, hy, hRR⟩ := hY (v, ds) W1 hb ⟨hR, hd, hlen⟩
    refine ⟨fn, tmps, assign, body, hy, ?_⟩
    have h2 : RoundIn Fence.wide m' Try.prog l fn tmps assign body W1 _ := ⟨hRR.1, fun c cs _ => hRR.2 c cs (room_wide _)⟩
    refine h2.mono ?_
    rintro e W' (⟨h1, h2, h3⟩ | ⟨h1, h2, h3⟩)
    · exact .inl ⟨h1, ⟨v, h2⟩, h3⟩
    · exact .inr ⟨h1, ⟨v, h2⟩, h3⟩
  refine (callsIn_wide (n := m)).2 ((num_all W l n gn _ _ hYY hn (blk_below hgn hW)).mono ?_)
  rintro e w' ⟨h1, h2 | ⟨pre, d, post, h3, h4, v, h5⟩⟩
  · exact ⟨h1, .inl h2⟩
  · exact ⟨h1, .inr ⟨(v, d), ⟨pre, post, h3, h4⟩, h5⟩⟩
set_option maxRecDepth 100000 in
theorem numbers_calls (n : Nat) (w : World) : Calls Try.prog 67 #[.int .i64 n] w fun e w' => e = .returned (.func (.func 80) #[] #[.pointer (some ⟨w.heap.size, 0, none⟩)]) ∧ w' = w.alloc (.cells #[.int .i64 n] 3) := by
  go_enter Try.func67, Try.ntmps67
  go_wp2
  go_ret
  exact ⟨rfl, rfl⟩
end Go.Proofs.Ytdkncfmlehcjmaa.X
