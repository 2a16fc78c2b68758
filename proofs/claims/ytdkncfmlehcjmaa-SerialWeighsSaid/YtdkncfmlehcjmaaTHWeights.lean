/- serial.Weights, by hand: the search by a closure that calls itself finds 1, 2, 1, 2 and so on at once. -/
import Derived.Test.YtdkncfmlehcjmaaTS9
import Derived.Test.YtdkncfmlehcjmaaTHClone
import Derived.Test.YtdkncfmlehcjmaaTHNumber
import Derived.Test.YtdkncfmlehcjmaaTX20
import Derived.WalkSpells
import Derived.Laws.EntriesVeiled
set_option linter.unusedVariables false
set_option linter.unusedSimpArgs false
namespace Go.Proofs.Ytdkncfmlehcjmaa.X
open Go.RowKit Go.Proofs.YtdkncfmlehcjmaaW.PrintWords Go.Proofs.YtdkncfmlehcjmaaW.PrintLast Go.Proofs.YtdkncfmlehcjmaaW.PrintMore
attribute [local go_sem] max2_int min2_int max_two min_two max_three min_three max_four min_four
/-- The closure's value: it holds the two numbers and itself. -/
def extV (gn gm gf : Nat) : Value := .func (.func 64) #[] #[.pointer (some ⟨gn, 0, none⟩), .pointer (some ⟨gm, 0, none⟩), .pointer (some ⟨gf, 0, none⟩)]
/-- What the closure returns: the whole pattern, in its own memory. -/
def Ext (N base : Nat) (W : World) (e : Ending) (w' : World) : Prop := ∃ v0 : Value, e = .returned v0 ∧ Kd.R (Kd.int .i64) 3 w' base (fun _ => True) v0 (pat N) ∧ Below W.heap.size W w'
/-- What Lets returns to the closure. -/
def LetsR (n : Nat) (w : World) (e : Ending) (w' : World) : Prop := ∃ v0 : Value, e = .returned v0 ∧ (∃ A c, v0 = .slice A n c) ∧ Below w.heap.size w w'
def LetsN (l : List Int) (m h : Int) (n : Nat) : Prop := ∃ k r, serial_lets.f k l m h = some r ∧ r.length = n
theorem lets_r (l : List Int) (m h : Int) (n : Nat) (hk : LetsN l m h n) (A : Option Addr) (c : Nat) (w : World) (hr : Kd.C (Kd.int .i64) w A l.length l) (hc : l.length ≤ c) :
    Calls Try.prog 61 #[.slice A l.length c, .int .i64 m, .int .i64 h] w (LetsR n w) := by
  obtain ⟨k, r, hk, rfl⟩ := hk
  exact (serial_lets.calls k A c l m h r w hr hc hk).mono fun e w' ⟨v0, h1, h2, h3⟩ => ⟨v0, h1, Kd.R_slice h2, h3⟩
set_option maxHeartbeats 4000000 in
set_option maxRecDepth 100000 in
theorem ext_end (N : Nat) (m : Int) (gn gm gf base : Nat) (hN : N ≤ 24) (A : Option Addr) (c : Nat) (W : World)
    (hn : W.heap[gn]? = some (.cells #[.int .i64 N] 3 (0, 0))) (hR : Kd.R (Kd.int .i64) 3 W base (fun _ => True) (.slice A (pat N).length c) (pat N)) :
    Calls Try.prog 64 #[.slice A (pat N).length c, .pointer (some ⟨gn, 0, none⟩), .pointer (some ⟨gm, 0, none⟩), .pointer (some ⟨gf, 0, none⟩)] W (Ext N base W) := by
  have HR := Aside0.mk hR
  have hcz : W.cell? ⟨gn, 0, none⟩ = some (.int .i64 N) := (blk_cell hn 0).trans rfl
  have hlen : (pat N).length = N := pat_len N
  have hb0 : (((pat N).length : Int) == (N : Int)) = true := by rw [hlen]; simp
  clear hn hR
  have HL := Aside0.mk hlen
  clear hlen
  go_enter Try.func64, Try.ntmps64
  go_wp2
  go_ret
  exact ⟨_, rfl, HR.out, Below.refl _ _⟩
theorem sum_iff {N : Nat} {m : Int} (hg : good N m) (j : Nat) (hj : j < N) (x : Nat) (hx : (x : Int) ≤ patA j) (nx : List Int) (hnx : nx = pat j ++ [(x : Int)]) (n0 n1 : Nat) (h0 : n0 = (passed0 nx m).length) (h1 : n1 = (passed1 nx m).length) (su : Int) (hs : su = n0 + n1) : 0 < su ↔ (x : Int) < patA j := by
  have hp := patA_le j
  constructor
  · intro h
    refine Int.lt_iff_le_and_ne.2 ⟨hx, fun e => ?_⟩
    rw [e, ← pat_succ] at hnx
    have := good_next hg j hj
    rw [hnx, this.1] at h0
    rw [hnx, this.2] at h1
    simp at h0 h1; omega
  · intro h
    have hc : x = 0 ∨ (x = 1 ∧ patA j = 2) := by omega
    have : 0 < (passed0 nx m).length + (passed1 nx m).length := by
      rcases hc with rfl | ⟨rfl, h2⟩
      · rw [hnx]; exact bad_zero hg j hj
      · rw [hnx]; exact bad_one hg j hj h2
    omega
theorem keepS {w6 W w2 : World} {gm : Nat} {m : Int} (hm : w6.heap[gm]? = some (.cells #[.int .i64 m] 3 (0, 0))) (h : Aside0 (Below w6.heap.size w6 W)) (hb : Below W.heap.size W w2) : w2.cell? ⟨gm, 0, none⟩ = some (.int .i64 m) ∧ Aside0 (Below w6.heap.size w6 w2) :=
  have h3 := below_step h.out hb
  ⟨(blk_cell (blk_below hm h3) 0).trans rfl, ⟨h3⟩⟩
set_option maxHeartbeats 8000000 in
set_option maxRecDepth 100000 in
theorem ext_step (N : Nat) (m : Int) (gn gm gf base : Nat) (hg : good N m) (j : Nat) (hj : j < N)
    (ih : ∀ (base : Nat) (A : Option Addr) (c : Nat) (W : World), base ≤ W.heap.size → W.heap[gn]? = some (.cells #[.int .i64 N] 3 (0, 0)) → W.heap[gm]? = some (.cells #[.int .i64 m] 3 (0, 0)) → W.heap[gf]? = some (.cells #[extV gn gm gf] 30 (0, 0)) → Kd.R (Kd.int .i64) 3 W base (fun _ => True) (.slice A (pat (j + 1)).length c) (pat (j + 1)) →
      Calls Try.prog 64 #[.slice A (pat (j + 1)).length c, .pointer (some ⟨gn, 0, none⟩), .pointer (some ⟨gm, 0, none⟩), .pointer (some ⟨gf, 0, none⟩)] W (Ext N base W))
    (A : Option Addr) (c : Nat) (W : World) (hbase : base ≤ W.heap.size)
    (hn : W.heap[gn]? = some (.cells #[.int .i64 N] 3 (0, 0))) (hm : W.heap[gm]? = some (.cells #[.int .i64 m] 3 (0, 0))) (hf : W.heap[gf]? = some (.cells #[extV gn gm gf] 30 (0, 0))) (hR : Kd.R (Kd.int .i64) 3 W base (fun _ => True) (.slice A (pat j).length c) (pat j)) (hA : A = none → pat j = []) :
    Calls Try.prog 64 #[.slice A (pat j).length c, .pointer (some ⟨gn, 0, none⟩), .pointer (some ⟨gm, 0, none⟩), .pointer (some ⟨gf, 0, none⟩)] W (Ext N base W) := by
  have HR := Aside0.mk hR
  have HN := Aside0.mk hn
  have HM := Aside0.mk hm
  have HF := Aside0.mk hf
  have HBA := Aside0.mk hbase
  have HAA := Aside0.mk hA
  have IH := Aside0.mk ih
  have HG := Aside0.mk hg
  have HJ := Aside0.mk hj
  have hlen : (pat j).length = j := pat_len j
  have HL := Aside0.mk hlen
  have HT := Aside0.mk (target_lt hg j hj)
  have HTP := Aside0.mk (patA_le j)
  have hm97 := good_m hg j hj
  have HM97 := Aside0.mk hm97
  have hN24 : N ≤ 24 := hg.1
  have HN24 := Aside0.mk hN24
  have hcz : W.cell? ⟨gn, 0, none⟩ = some (.int .i64 N) := (blk_cell hn 0).trans rfl
  have hcm : W.cell? ⟨gm, 0, none⟩ = some (.int .i64 m) := (blk_cell hm 0).trans rfl
  have hb0 : (((pat j).length : Int) == (N : Int)) = false := by rw [hlen]; simp; omega
  have HB := Aside0.mk (Below.refl W.heap.size W)
  clear hn hm hf hR hbase hA ih hg hj hlen hm97 hN24
  go_enter Try.func64, Try.ntmps64
  go_wp2
  go_loopg [15] (patA j).toNat (fun kq v15 w' => ∃ x : Nat, v15 = .int .i64 x ∧ Aside0 (kq + x = (patA j).toNat) ∧ Aside0 (Below W.heap.size W w'))
  case atStart => exact ⟨0, rfl, ⟨by omega⟩, HB⟩
  case round =>
    clear HB
    obtain ⟨x, rfl, HK, HB⟩ := hrel
    obtain ⟨k1, rfl⟩ : ∃ k1, k1 = gk := ⟨_, rfl⟩
    have hx1 : (x : Int) ≤ patA j := by have := HK.out; have := HTP.out; omega
    have hxm : decide ((x : Int) < m) = true := decide_eq_true (by have := HT.out; omega)
    have HX1 := Aside0.mk hx1
    clear hx1
    go_upto_region 7 with (first | (go_at_call 65; refine (slices_Clone_int_int.calls A c (pat j) _ (Kd.C_below (Kd.R_reads' HR.out).2.2 HB.out) HAA.out (by rw [HL.out]; have := HJ.out; have := HN24.out; omega)).mono ?_; rintro e w5 ⟨v1, rfl, ho, hb⟩; have HO := Aside0.mk (Kd.R_lower ho (below_size HB.out)); have HBs := Aside0.mk (below_step HB.out hb); clear HB; have HB := HBs; clear HBs ho hb) | (at_builtin; go_loud (refine Kd.R_append (Kd.int .i64) (w0 := W) W.heap.size rfl (.tmp 19) (.tmp 21) 23 3 (.int .i64 0) 8 rfl Try.underlying23 info3 rfl (by decide) (by omega) v1 (pat j) x [.int .i64 x] (fun _ => True) (fun _ => False) rfl rfl ?aP (fun _ hk => hk.elim) ?aF ?aO ?aB ?aS ?aL ?_); go_loud (case aP => exact rfl); go_loud (case aB => first | exact HB.out | exact below_alloc HB.out _); go_loud (case aF => exact fun _ _ => trivial); go_loud (case aO => first | exact HO.out | exact Kd.R_alloc HO.out _); go_loud (case aS => first | exact below_size HB.out | exact below_size (below_alloc HB.out _)); go_loud (case aL => rw [HL.out]; have := HJ.out; have := HN24.out; omega); intro v2 w6 ho hb hg hat; have HO2 := Aside0.mk ho; have HBs := Aside0.mk hb; clear HB; have HB := HBs; clear HBs ho hb hg hat HO))
    obtain ⟨nx, hnx⟩ : ∃ nx, nx = pat j ++ [(x : Int)] := ⟨_, rfl⟩
    rw [← hnx] at HO2
    obtain ⟨A2, c2, rfl⟩ := Kd.R_slice HO2.out
    have L2 := lets_two HG.out j HJ.out x (by omega) HX1.out
    rw [← hnx] at L2
    obtain ⟨n0, hn0⟩ : ∃ n0, n0 = (passed0 nx m).length := ⟨_, rfl⟩
    obtain ⟨n1, hn1⟩ : ∃ n1, n1 = (passed1 nx m).length := ⟨_, rfl⟩
    have L0 : Aside0 (LetsN nx m 0 n0) := ⟨by obtain ⟨k, hk⟩ := L2.1; exact ⟨k, _, hk, hn0.symm⟩⟩
    have L1 : Aside0 (LetsN nx m 1 n1) := ⟨by obtain ⟨k, hk⟩ := L2.2; exact ⟨k, _, hk, hn1.symm⟩⟩
    clear L2
    have hl0 : n0 ≤ 24 := by rw [hn0]; refine Nat.le_trans (letN_len _ _ _ _) ?_; rw [hnx, List.length_append, HL.out]; have := HJ.out; have := HN24.out; simp; omega
    have hl1 : n1 ≤ 24 := by rw [hn1]; refine Nat.le_trans (letN_len _ _ _ _) ?_; rw [hnx, List.length_append, HL.out]; have := HJ.out; have := HN24.out; simp; omega
    have N0 := Aside0.mk hn0
    have N1 := Aside0.mk hn1
    clear hn0 hn1
    obtain ⟨su, hsu⟩ : ∃ su : Int, IntKind.i64.wrap ((n0 : Int) + (n1 : Int)) = su := ⟨_, rfl⟩
    have SU : Aside0 (su = n0 + n1) := ⟨by rw [← hsu, IntKind.wrap_i64]; omega⟩
    clear hl0 hl1
    obtain ⟨bb, hbb⟩ : ∃ bb, decide (0 < su) = bb := ⟨_, rfl⟩
    have NX := Aside0.mk hnx
    clear hnx
    have BM6 := Aside0.mk (blk_below HM.out HB.out)
    have hcm6 : w6.cell? ⟨gm, 0, none⟩ = some (.int .i64 m) := (blk_cell BM6.out 0).trans rfl
    have HC6 := Aside0.mk (Kd.R_reads' HO2.out)
    have hB6 := Aside0.mk (Below.refl w6.heap.size w6)
    go_region_held3 (fun w' => w'.cell? ⟨gm, 0, none⟩ = some (.int .i64 m) ∧ Aside0 (Below w6.heap.size w6 w')) ((first | exact ⟨hcm6, ⟨below_drew hB6.out⟩⟩ | exact keepS BM6.out (show (_ : World).cell? ⟨gm, 0, none⟩ = some (.int .i64 m) ∧ Aside0 (Below w6.heap.size w6 _) from by with_reducible assumption).2 hb))
      (first | (go_at_call 61; (with_reducible refine (lets_r nx m 0 n0 L0.out A2 c2 _ ?side1 ?side2).mono ?_); (case side1 => exact Kd.C_below HC6.out.2.2 (show (_ : World).cell? ⟨gm, 0, none⟩ = some (.int .i64 m) ∧ Aside0 (Below w6.heap.size w6 _) from by with_reducible assumption).2.out); (case side2 => exact HC6.out.2.1); rintro e w9 ⟨v0, rfl, ⟨A3, c3, rfl⟩, hb⟩) | (go_at_call 61; (with_reducible refine (lets_r nx m 1 n1 L1.out A2 c2 _ ?side1 ?side2).mono ?_); (case side1 => exact Kd.C_below HC6.out.2.2 (show (_ : World).cell? ⟨gm, 0, none⟩ = some (.int .i64 m) ∧ Aside0 (Below w6.heap.size w6 _) from by with_reducible assumption).2.out); (case side2 => exact HC6.out.2.1); rintro e w9 ⟨v0, rfl, ⟨A3, c3, rfl⟩, hb⟩))
    have HS9 : Aside0 (Below w6.heap.size w6 w9) := (show w9.cell? ⟨gm, 0, none⟩ = some (.int .i64 m) ∧ Aside0 (Below w6.heap.size w6 w9) from by assumption).2
    have HB9 := Aside0.mk (below_step HB.out HS9.out)
    have hiff := sum_iff HG.out j HJ.out x HX1.out nx NX.out n0 n1 N0.out N1.out su SU.out
    cases bb with
    | true =>
      have hlt : (x : Int) < patA j := hiff.1 (of_decide_eq_true hbb)
      have HLT := Aside0.mk hlt
      clear hiff hlt hsu hbb hb
      go_wp2
      go_roundg (k1 - 1)
      case measure => have := HK.out; have := HLT.out; omega
      case rel => have h2 := HTP.out; have h3 := HLT.out; exact ⟨x + 1, (by first | (rw [w64 (by omega) (by omega)]; rfl) | (rw [IntKind.wrap_i64, w64 (by omega) (by omega)]; rfl) | go_num), ⟨by have := HK.out; have := HLT.out; omega⟩, HB9⟩
    | false =>
      have hlt : ¬ (x : Int) < patA j := fun h => of_decide_eq_false hbb (hiff.2 h)
      have hxe : (x : Int) = patA j := by have := HX1.out; omega
      have hnx : nx = pat (j + 1) := by rw [NX.out, hxe, pat_succ]
      subst hnx
      clear hiff hlt hsu hbb hb hxe NX
      have hcf : w9.cell? ⟨gf, 0, none⟩ = some (.func (.func 64) #[] #[.pointer (some ⟨gn, 0, none⟩), .pointer (some ⟨gm, 0, none⟩), .pointer (some ⟨gf, 0, none⟩)]) := (blk_cell (blk_below HF.out HB9.out) 0).trans rfl
      have HO9 := Aside0.mk (Kd.R_below HO2.out HS9.out)
      clear HO2
      have q23 : ∀ (w : World) (a : Option Addr) (n c n' c' : Nat), (binOp .neq 23 (.slice a n c) (.slice none n' c')).run Try.prog w = .ok (.bool (!a.isNone)) w := fun w a n c n' c' => run_neq_slice_nil_any w _ _ a n c n' c' Try.underlying23
      go_wp2_with (go_at_call 64; (with_reducible refine (IH.out W.heap.size A2 c2 _ ?s1 ?s2 ?s3 ?s4 ?s5).mono ?_); (case s1 => exact below_size HB9.out); (case s2 => exact blk_below HN.out HB9.out); (case s3 => exact blk_below HM.out HB9.out); (case s4 => exact blk_below HF.out HB9.out); (case s5 => exact HO9.out); rintro e w10 ⟨v3, rfl, ho, hb⟩; have HO10 := Aside0.mk ho; have HB10 := Aside0.mk (below_step HB9.out hb); clear hb; obtain ⟨g3, c3, rfl, _, _, _⟩ := Kd.R_form ho (by rw [pat_len]; have := HJ.out; omega); clear ho)
      go_ret
      exact ⟨_, rfl, Kd.R_lower HO10.out HBA.out, HB10.out⟩
theorem ext_calls (N : Nat) (m : Int) (gn gm gf : Nat) (hg : good N m) (d : Nat) : ∀ (j : Nat), j + d = N → ∀ (base : Nat) (A : Option Addr) (c : Nat) (W : World), base ≤ W.heap.size → W.heap[gn]? = some (.cells #[.int .i64 N] 3 (0, 0)) → W.heap[gm]? = some (.cells #[.int .i64 m] 3 (0, 0)) → W.heap[gf]? = some (.cells #[extV gn gm gf] 30 (0, 0)) → Kd.R (Kd.int .i64) 3 W base (fun _ => True) (.slice A (pat j).length c) (pat j) →
    Calls Try.prog 64 #[.slice A (pat j).length c, .pointer (some ⟨gn, 0, none⟩), .pointer (some ⟨gm, 0, none⟩), .pointer (some ⟨gf, 0, none⟩)] W (Ext N base W) := by
  induction d with
  | zero =>
    intro j hj base A c W hbase hn hm hf hR
    obtain rfl : j = N := by omega
    exact ext_end j m gn gm gf base hg.1 A c W hn hR
  | succ d ih =>
    intro j hj base A c W hbase hn hm hf hR
    refine ext_step N m gn gm gf base hg j (by omega) (ih (j + 1) (by omega)) A c W hbase hn hm hf hR (fun hA => ?_)
    rcases Nat.eq_zero_or_pos j with h | h
    · subst h; rfl
    · obtain ⟨g, cap, he, _⟩ := Kd.R_form hR (by rw [pat_len]; exact h)
      rw [hA] at he; injection he with h1 _ _; cases h1

/-! ### Weights -/
theorem size_alloc' (w : World) (o : Obj) : (w.alloc o).heap.size = w.heap.size + 1 := by first | (simp; done) | exact Array.size_push _ | rfl
theorem blk_3 (w : World) (o1 o2 o3 : Obj) : (((w.alloc o1).alloc o2).alloc o3).heap[w.heap.size]? = some o1 ∧ (((w.alloc o1).alloc o2).alloc o3).heap[w.heap.size + 1]? = some o2 ∧ (((w.alloc o1).alloc o2).alloc o3).heap[w.heap.size + 1 + 1]? = some o3 := by
  refine ⟨blk_alloc (blk_alloc (blk_new w o1) o2) o3, ?_, ?_⟩
  · have := blk_alloc (blk_new (w.alloc o1) o2) o3
    rwa [size_alloc'] at this
  · have := blk_new ((w.alloc o1).alloc o2) o3
    rwa [size_alloc', size_alloc'] at this
def serial_Weights.f (n m : Int) : Option (List Int × Int) := some (if ¬ ((1 ≤ n ∧ n ≤ 24) ∧ (2 ≤ m ∧ m ≤ 97)) then ([], 2) else if m % 2 = 0 ∧ n > 1 then ([], 6) else (pat n.toNat, 0))
def WPost (w : World) (l : List Int) (er : Int) (e : Ending) (w' : World) : Prop := ∃ v0_ : Value, e = .returned (.tuple #[v0_, .int .i64 er]) ∧ Kd.R (Kd.int .i64) 3 w' w.heap.size (fun _ => True) v0_ l ∧ Below w.heap.size w w'
set_option maxHeartbeats 4000000 in
set_option maxRecDepth 100000 in
theorem weights_arg (n m : Int) (w : World) (h : ¬ ((1 ≤ n ∧ n ≤ 24) ∧ (2 ≤ m ∧ m ≤ 97))) : Calls Try.prog 48 #[.int .i64 n, .int .i64 m] w (WPost w [] 2) := by
  have HB := Aside0.mk (Below.refl w.heap.size w)
  by_cases h1 : 1 ≤ n ∧ n ≤ 24
  · have g1 : (decide (1 ≤ n) && decide (n ≤ 24)) = true := by simp [h1]
    have g2 : (decide (2 ≤ m) && decide (m ≤ 97)) = false := by
      have : ¬ (2 ≤ m ∧ m ≤ 97) := fun h2 => h ⟨h1, h2⟩
      simp only [Bool.and_eq_false_iff, decide_eq_false_iff_not]; omega
    have G1 := Aside0.mk g1
    have G2 := Aside0.mk g2
    clear h h1 g1 g2
    go_enter Try.func48, Try.ntmps48
    go_wp2_with (first | (go_at_call 56; (with_reducible refine (within_n n 1 24 _).mono ?_); rintro e w' ⟨rfl, rfl⟩; rw [G1.out]) | (go_at_call 56; (with_reducible refine (within_n m 2 97 _).mono ?_); rintro e w' ⟨rfl, rfl⟩; rw [G2.out]))
    go_ret2
    exact ⟨_, rfl, Kd.R_nil _ _ _ _ _, below_alloc (below_alloc HB.out _) _⟩
  · have g1 : (decide (1 ≤ n) && decide (n ≤ 24)) = false := by
      simp only [Bool.and_eq_false_iff, decide_eq_false_iff_not]; omega
    have G1 := Aside0.mk g1
    clear h h1 g1
    go_enter Try.func48, Try.ntmps48
    go_wp2_with (first | (go_at_call 56; (with_reducible refine (within_n n 1 24 _).mono ?_); rintro e w' ⟨rfl, rfl⟩; rw [G1.out]))
    go_ret2
    exact ⟨_, rfl, Kd.R_nil _ _ _ _ _, below_alloc (below_alloc HB.out _) _⟩
set_option maxHeartbeats 4000000 in
set_option maxRecDepth 100000 in
theorem weights_none (n m : Int) (w : World) (h : (1 ≤ n ∧ n ≤ 24) ∧ (2 ≤ m ∧ m ≤ 97)) (h2 : m % 2 = 0 ∧ n > 1) : Calls Try.prog 48 #[.int .i64 n, .int .i64 m] w (WPost w [] 6) := by
  have HB := Aside0.mk (Below.refl w.heap.size w)
  have g1 : (decide (1 ≤ n) && decide (n ≤ 24)) = true := by simp [h.1]
  have g2 : (decide (2 ≤ m) && decide (m ≤ 97)) = true := by simp [h.2]
  have G1 := Aside0.mk g1
  have G2 := Aside0.mk g2
  have ht : Int.tmod m 2 = 0 := by rw [Int.tmod_eq_emod_of_nonneg (by omega)]; exact h2.1
  have hn1 : decide (1 < n) = true := decide_eq_true h2.2
  clear h h2 g1 g2
  go_enter Try.func48, Try.ntmps48
  go_wp2_with (first | (go_at_call 56; (with_reducible refine (within_n n 1 24 _).mono ?_); rintro e w' ⟨rfl, rfl⟩; rw [G1.out]) | (go_at_call 56; (with_reducible refine (within_n m 2 97 _).mono ?_); rintro e w' ⟨rfl, rfl⟩; rw [G2.out]))
  go_ret2
  exact ⟨_, rfl, Kd.R_nil _ _ _ _ _, below_alloc (below_alloc (below_alloc HB.out _) _) _⟩
theorem ext_top (N : Nat) (m : Int) (gn gm gf base : Nat) (hg : good N m) (W : World) (hbase : base ≤ W.heap.size) (hn : W.heap[gn]? = some (.cells #[.int .i64 N] 3 (0, 0))) (hm : W.heap[gm]? = some (.cells #[.int .i64 m] 3 (0, 0))) (hf : W.heap[gf]? = some (.cells #[extV gn gm gf] 30 (0, 0))) :
    Calls Try.prog 64 #[.slice none 0 0, .pointer (some ⟨gn, 0, none⟩), .pointer (some ⟨gm, 0, none⟩), .pointer (some ⟨gf, 0, none⟩)] W (Ext N base W) :=
  ext_calls N m gn gm gf hg N 0 (Nat.zero_add _) base none 0 W hbase hn hm hf (Kd.R_nil _ _ _ _ _)
set_option maxHeartbeats 4000000 in
set_option maxRecDepth 100000 in
theorem weights_good (n m : Int) (w : World) (h : (1 ≤ n ∧ n ≤ 24) ∧ (2 ≤ m ∧ m ≤ 97)) (h2 : ¬ (m % 2 = 0 ∧ n > 1)) : Calls Try.prog 48 #[.int .i64 n, .int .i64 m] w (WPost w (pat n.toNat) 0) := by
  have HB := Aside0.mk (Below.refl w.heap.size w)
  have g1 : (decide (1 ≤ n) && decide (n ≤ 24)) = true := by simp [h.1]
  have g2 : (decide (2 ≤ m) && decide (m ≤ 97)) = true := by simp [h.2]
  have G1 := Aside0.mk g1
  have G2 := Aside0.mk g2
  have hgood : good n.toNat m := by unfold good; omega
  have HG := Aside0.mk hgood
  obtain ⟨N, hN⟩ : ∃ N : Nat, n = N := ⟨n.toNat, by omega⟩
  subst hN
  simp only [Int.toNat_natCast] at HG ⊢
  clear hgood g1 g2
  have B3 := blk_3 w (.cells #[.int .i64 N] 3 (0, 0)) (.cells #[.int .i64 m] 3 (0, 0)) (.cells #[extV w.heap.size (w.heap.size + 1) (w.heap.size + 1 + 1)] 30 (0, 0))
  have HB3 := Aside0.mk (below_alloc (below_alloc (below_alloc HB.out (.cells #[.int .i64 N] 3 (0, 0))) (.cells #[.int .i64 m] 3 (0, 0))) (.cells #[extV w.heap.size (w.heap.size + 1) (w.heap.size + 1 + 1)] 30 (0, 0)))
  have B3 := Aside0.mk B3
  by_cases h3 : m % 2 = 0
  · have ht : Int.tmod m 2 = 0 := by rw [Int.tmod_eq_emod_of_nonneg (by omega)]; exact h3
    have hn1 : decide ((1 : Int) < (N : Int)) = false := decide_eq_false (by omega)
    clear h h2 h3
    go_enter Try.func48, Try.ntmps48
    go_wp2_with (first | (go_at_call 56; (with_reducible refine (within_n N 1 24 _).mono ?_); rintro e w' ⟨rfl, rfl⟩; rw [G1.out]) | (go_at_call 56; (with_reducible refine (within_n m 2 97 _).mono ?_); rintro e w' ⟨rfl, rfl⟩; rw [G2.out]) | (go_at_call 64; (with_reducible refine (ext_top N m w.heap.size (w.heap.size + 1) (w.heap.size + 1 + 1) w.heap.size HG.out _ ?s1 ?s2 ?s3 ?s4).mono ?_); go_loud (case s1 => exact below_size HB3.out); go_loud (case s2 => exact B3.out.1); go_loud (case s3 => exact B3.out.2.1); go_loud (case s4 => exact B3.out.2.2); rintro e w10 ⟨v3, rfl, ho, hb⟩; have HO10 := Aside0.mk ho; have HB10 := Aside0.mk (below_step HB3.out hb); clear ho hb))
    go_ret2
    exact ⟨_, rfl, HO10.out, HB10.out⟩
  · obtain ⟨r2, hr2⟩ : ∃ r2, Int.tmod m 2 = r2 := ⟨_, rfl⟩
    have hr0 : (r2 == 0) = false := by rw [← hr2, Int.tmod_eq_emod_of_nonneg (by omega)]; simpa using h3
    clear h h2 h3
    go_enter Try.func48, Try.ntmps48
    go_wp2_with (first | (go_at_call 56; (with_reducible refine (within_n N 1 24 _).mono ?_); rintro e w' ⟨rfl, rfl⟩; rw [G1.out]) | (go_at_call 56; (with_reducible refine (within_n m 2 97 _).mono ?_); rintro e w' ⟨rfl, rfl⟩; rw [G2.out]) | (go_at_call 64; (with_reducible refine (ext_top N m w.heap.size (w.heap.size + 1) (w.heap.size + 1 + 1) w.heap.size HG.out _ ?s1 ?s2 ?s3 ?s4).mono ?_); go_loud (case s1 => exact below_size HB3.out); go_loud (case s2 => exact B3.out.1); go_loud (case s3 => exact B3.out.2.1); go_loud (case s4 => exact B3.out.2.2); rintro e w10 ⟨v3, rfl, ho, hb⟩; have HO10 := Aside0.mk ho; have HB10 := Aside0.mk (below_step HB3.out hb); clear ho hb))
    go_ret2
    exact ⟨_, rfl, HO10.out, HB10.out⟩
theorem serial_Weights.calls (a0 : Int) (a1 : Int) (r1 : List Int) (r2 : Int) (w : World) (h : serial_Weights.f a0 a1 = some (r1, r2)) :
    Calls Try.prog 48 #[.int .i64 a0, .int .i64 a1] w fun e w' => ∃ v0_ : Value, e = .returned (.tuple #[v0_, .int .i64 r2]) ∧ Kd.R (Kd.int .i64) 3 w' w.heap.size (fun _ => True) v0_ r1 ∧ Below w.heap.size w w' := by
  unfold serial_Weights.f at h
  have h := Option.some.inj h
  by_cases c : ¬ ((1 ≤ a0 ∧ a0 ≤ 24) ∧ (2 ≤ a1 ∧ a1 ≤ 97))
  · rw [if_pos c] at h
    obtain ⟨rfl, rfl⟩ := Prod.mk.inj h
    exact weights_arg a0 a1 w c
  · rw [if_neg c] at h
    have c' := Classical.not_not.1 c
    by_cases d : a1 % 2 = 0 ∧ a0 > 1
    · rw [if_pos d] at h
      obtain ⟨rfl, rfl⟩ := Prod.mk.inj h
      exact weights_none a0 a1 w c' d
    · rw [if_neg d] at h
      obtain ⟨rfl, rfl⟩ := Prod.mk.inj h
      exact weights_good a0 a1 w c' d
end Go.Proofs.Ytdkncfmlehcjmaa.X
