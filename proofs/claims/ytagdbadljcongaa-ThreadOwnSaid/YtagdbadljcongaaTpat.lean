/- Texts behind ThreadOwn, part 20: contracts of the program's functions and the plain words for them. -/
import Derived.Lib.ConvBytes
import Derived.RangeFuncNested
import Derived.RangeFuncBound
import Derived.RangeFuncCalls
import Derived.RangeFuncLeaves
import Derived.Shelf.Abstract
import Derived.Shelf.RegionOpen
import Derived.WalkKit
import Derived.OwnWalkIn
import Derived.TacticsInMore
import Derived.LoopNIn
import Derived.LoopIn
import Derived.WalkSpells
import Derived.Laws.EntriesVeiled
import Derived.Deep.LoopGhost
import Derived.Lib.OthersKept
import Derived.Lib.TrimU
import Derived.Laws.RangeString
import Derived.Shelf.GgClosure.Gives
import Derived.Test.YtagdbadljcongaaTpae
import Derived.Test.YtagdbadljcongaaTpas
section
/- thread.counts and Count: the numbers of different subsequences from each place on. -/
set_option linter.unusedVariables false
set_option linter.unusedSimpArgs false
namespace Go.Proofs.Ytagdbadljcongaa.X
open Go.RowKit Go.Proofs.YtagdbadljcongaaW.PrintWords Go.Proofs.YtagdbadljcongaaW.PrintLast Go.Proofs.YtagdbadljcongaaW.PrintMore
/-- The cells of an array of 61 numbers. -/
def acells (f : Nat → Int) : Array Value := ((List.range 61).map fun j => Value.int .i64 (f j)).toArray
theorem acells_at (f : Nat → Int) (j : Nat) (h : j < 61) : (acells f)[j]? = some (.int .i64 (f j)) := by simp [acells, h]
theorem acells_size (f : Nat → Int) : (acells f).size = 61 := by simp [acells]
theorem acells_set (f : Nat → Int) (j : Nat) (v : Int) (h : j < 61) : (acells f).setIfInBounds j (.int .i64 v) = acells (upd f j v) := by
  apply Array.ext_getElem?
  intro i
  rw [Array.getElem?_setIfInBounds, acells_size]
  by_cases e : j = i
  · subst e
    rw [if_pos rfl, if_pos h, acells_at _ j h]; simp [upd]
  · rw [if_neg e]
    by_cases hi : i < 61
    · rw [acells_at f i hi, acells_at _ i hi]; simp [upd, show i ≠ j by omega]
    · simp [acells, hi]
theorem acells_congr {f g : Nat → Int} (h : ∀ j, j < 61 → f j = g j) : acells f = acells g := by
  apply Array.ext_getElem?
  intro i
  by_cases hi : i < 61
  · rw [acells_at f i hi, acells_at g i hi, h i hi]
  · simp [acells, hi]
theorem zeros61 : #[Value.int IntKind.i64 0, Value.int IntKind.i64 0, Value.int IntKind.i64 0, Value.int IntKind.i64 0, Value.int IntKind.i64 0, Value.int IntKind.i64 0, Value.int IntKind.i64 0, Value.int IntKind.i64 0, Value.int IntKind.i64 0, Value.int IntKind.i64 0, Value.int IntKind.i64 0, Value.int IntKind.i64 0, Value.int IntKind.i64 0, Value.int IntKind.i64 0, Value.int IntKind.i64 0, Value.int IntKind.i64 0, Value.int IntKind.i64 0, Value.int IntKind.i64 0, Value.int IntKind.i64 0, Value.int IntKind.i64 0, Value.int IntKind.i64 0, Value.int IntKind.i64 0, Value.int IntKind.i64 0, Value.int IntKind.i64 0, Value.int IntKind.i64 0, Value.int IntKind.i64 0, Value.int IntKind.i64 0, Value.int IntKind.i64 0, Value.int IntKind.i64 0, Value.int IntKind.i64 0, Value.int IntKind.i64 0, Value.int IntKind.i64 0, Value.int IntKind.i64 0, Value.int IntKind.i64 0, Value.int IntKind.i64 0, Value.int IntKind.i64 0, Value.int IntKind.i64 0, Value.int IntKind.i64 0, Value.int IntKind.i64 0, Value.int IntKind.i64 0, Value.int IntKind.i64 0, Value.int IntKind.i64 0, Value.int IntKind.i64 0, Value.int IntKind.i64 0, Value.int IntKind.i64 0, Value.int IntKind.i64 0, Value.int IntKind.i64 0, Value.int IntKind.i64 0, Value.int IntKind.i64 0, Value.int IntKind.i64 0, Value.int IntKind.i64 0, Value.int IntKind.i64 0, Value.int IntKind.i64 0, Value.int IntKind.i64 0, Value.int IntKind.i64 0, Value.int IntKind.i64 0, Value.int IntKind.i64 0, Value.int IntKind.i64 0, Value.int IntKind.i64 0, Value.int IntKind.i64 0, Value.int IntKind.i64 0] = acells (fun _ => 0) := by kernel_rfl
theorem aset {w : World} {b : Nat} {f : Nat → Int} (h : w.heap[b]? = some (.cells (acells f) 84 (0, 0))) (j : Nat) (v : Int) (hj : j < 61) :
    (w.setCell ⟨b, j, none⟩ (.int .i64 v)).heap[b]? = some (.cells (acells (upd f j v)) 84 (0, 0)) := by
  rw [← acells_set f j v hj]; exact blk_set h j (.int .i64 v)
theorem upd_upd (f : Nat → Int) (j : Nat) (u v : Int) : upd (upd f j u) j v = upd f j v := by
  funext k; unfold upd; split <;> rfl
/-- A whole array stored over another one. -/
theorem store_arr {w : World} {ops : Array Oper} {rest : List Oper} {o : Oper} {a : Act} {Q : Exit → Act → World → Prop} (x y : Operand) (hg : o.guard = none) (ho : o.op = .store 84 x y)
    (b : Nat) (f g : Nat → Int) (hx : a.eval x = .pointer (some ⟨b, 0, none⟩)) (hy : a.eval y = .agg (acells g)) (hb : w.heap[b]? = some (.cells (acells f) 84 (0, 0)))
    (h : ∀ w', w'.heap[b]? = some (.cells (acells g) 84 (0, 0)) → w.grownBy w' (some b) → wpList Try.prog ops Q rest (a.put o.dst undef) w') : wpList Try.prog ops Q (o :: rest) a w := by
  have hsz : (acells g).toList.length = 61 := by rw [Array.length_toList, acells_size]
  refine wpList_store_mid hg 84 x y ho b 0 (acells g) hx hy (fun j hj => ?_) (by rw [acells_size]; kernel_rfl) (Array.all_eq_true_iff_forall_mem.2 (fun v hv => ?_)) ?_
  · rw [acells_size] at hj
    rw [Nat.zero_add]
    exact ⟨by rw [blk_cell hb, acells_at f j hj]; rfl, blk_frozen hb _⟩
  · unfold acells at hv
    rw [List.mem_toArray, List.mem_map] at hv
    obtain ⟨j, _, rfl⟩ := hv; rfl
  · obtain ⟨cur', h3, h4, h5⟩ := setCells_row (acells g).toList 0 w (acells f) hb (by rw [hsz, acells_size]; omega)
    obtain ⟨s1, s2, s3, s4⟩ := setCells_same b (acells g).toList 0 w
    refine h _ ?_ ⟨s1, s2, s3, by rw [s4]; exact Nat.le_refl _, fun k _ hk => setCells_far _ _ k (fun e => hk (by rw [e]))⟩
    have : cur' = acells g := by
      apply Array.toList_inj.1
      rw [h5, List.take_zero, List.nil_append, hsz, List.drop_eq_nil_of_le (by rw [Array.length_toList, acells_size]; omega), List.append_nil]
    rw [h3, this]
/-- Where counts stands: all places behind i are reckoned; the result's block is untouched. -/
structure CtAt (s : ByteArray) (w : World) (b : Nat) (f : Nat → Int) (wr : World) : Prop where
  res : wr.heap[w.heap.size]? = some (.cells (acells fun _ => 0) 84 (0, 0))
  arr : wr.heap[w.heap.size + 1]? = some (.cells (acells f) 84 (0, 0))
  wd : WordAt wr b s
  bel : Below w.heap.size w wr
theorem CtAt.below {s : ByteArray} {w wr w' : World} {b : Nat} {f : Nat → Int} (h : CtAt s w b f wr) (hb : Below wr.heap.size wr w') : CtAt s w b f w' :=
  ⟨blk_below h.res hb, blk_below h.arr hb, h.wd.below hb, below_step h.bel hb⟩
theorem CtAt.set {s : ByteArray} {w wr : World} {b : Nat} {f : Nat → Int} (h : CtAt s w b f wr) (hw : WordAt w b s) (j : Nat) (hj : j < 61) (v : Int) : CtAt s w b (upd f j v) (wr.setCell ⟨w.heap.size + 1, j, none⟩ (.int .i64 v)) := by
  have hb := h.bel.setCell (p := ⟨w.heap.size + 1, j, none⟩) (Nat.le_succ _) (.int .i64 v)
  exact ⟨blk_far h.res (by show w.heap.size ≠ w.heap.size + 1; omega) _, aset h.arr j v hj, hw.below hb, hb⟩
theorem CtAt.start (s : ByteArray) (w : World) (b : Nat) (hw : WordAt w b s) : CtAt s w b (fun _ => 0) ((w.alloc (.cells (acells fun _ => 0) 84)).alloc (.cells (acells fun _ => 0) 84)) := by
  have hb := below_alloc (below_alloc (Below.refl w.heap.size w) (.cells (acells fun _ => 0) 84)) (.cells (acells fun _ => 0) 84)
  refine ⟨blk_alloc (blk_new w _) _, ?_, hw.below hb, hb⟩
  have := blk_new (w.alloc (.cells (acells fun _ => 0) 84)) (.cells (acells fun _ => 0) 84)
  rwa [World.size_alloc] at this
/-- All places behind i are reckoned. -/
def Done (l : List Nat) (i : Int) (f : Nat → Int) : Prop := ∀ j : Nat, i < (j : Int) → f j = cntF l j
theorem Done.at_ {l : List Nat} {i : Int} {f : Nat → Int} (h : Done l i f) (j : Nat) (hj : i < (j : Int)) (hl : j ≤ l.length) : f j = (cs (l.drop j) : Int) := by
  rw [h j hj]; unfold cntF; rw [if_pos hl]
theorem after_c (w : World) (b : Nat) (s : ByteArray) (hw : WordAt w b s) (hs : s.size ≤ 60) (i c q : Nat) (r : Bool) (hi : i ≤ s.size) (hc : c < 4) (hq : nx (bl s) i (97 + c) = q) (hr : decide (q < s.size) = r) :
    Calls Try.prog 57 #[.pointer (some ⟨b, 0, none⟩), .int .i64 i, .int .i64 c] w fun e w' => e = .returned (.tuple #[.int .i64 (q + 1 : Int), .bool r]) ∧ Drawn0 w w' := by
  subst hq hr
  exact after_any w b s hw hs i c hi hc
set_option maxHeartbeats 4000000 in
set_option maxRecDepth 100000 in
theorem counts_any (w : World) (b : Nat) (s : ByteArray) (hw : WordAt w b s) (hs : s.size ≤ 60) :
    Calls Try.prog 53 #[.pointer (some ⟨b, 0, none⟩)] w fun e w' => e = .returned (.agg (acells (cntF (bl s)))) ∧ Below w.heap.size w w' := by
  have HST := Aside0.mk (CtAt.start s w b hw)
  have HW := Aside0.mk hw
  have HS := Aside0.mk hs
  have t1 := HST.out.wd.text
  have hs1 : (s.size : Int) ≤ 60 := by omega
  clear hw hs
  go_enter Try.func53, Try.ntmps53
  go_upto_region 2 with (fail)
  rw [zeros61]
  obtain ⟨w0, hw0⟩ : ∃ w0, w0 = (w.alloc (.cells (acells fun _ => 0) 84)).alloc (.cells (acells fun _ => 0) 84) := ⟨_, rfl⟩
  rw [← hw0] at HST t1 ⊢
  clear hw0
  go_wp2
  clear t1
  go_loopw [4] (fun v4 wr => ∃ (i : Int) (f : Nat → Int), v4 = .int .i64 i ∧ -1 ≤ i ∧ i ≤ (s.size : Int) ∧ Aside0 (CtAt s w b f wr) ∧ Aside0 (Done (bl s) i f)) (fun v4 _ => (intOf v4 + 1).toNat)
  case atStart => exact ⟨s.size, _, rfl, by omega, by omega, HST, ⟨fun j hj => by unfold cntF; rw [if_neg (by rw [bl_length]; omega)]⟩⟩
  case round =>
    obtain ⟨i, f, rfl, hi1, hi2, HC, HD⟩ := hrel
    clear HST
    by_cases hp : 0 ≤ i
    · obtain ⟨m, rfl⟩ := Int.eq_ofNat_of_zero_le hp
      clear hp hi1
      have hm : m ≤ s.size := by omega
      have c3 : (m : Int) < 61 := by omega
      have c4 : (0 : Int) ≤ (m : Int) := by omega
      have g1 : wr.cell? ⟨w.heap.size + 1, m, none⟩ = some (.int .i64 (f m)) := (blk_cell HC.out.arr _).trans (acells_at f m (by omega))
      have g2 := blk_frozen HC.out.arr m
      have HX := Aside0.mk (HC.out.set HW.out m (by omega) 1)
      go_upto_region 6 with (fail)
      obtain ⟨w1, hw1⟩ : ∃ w1, w1 = wr.setCell ⟨w.heap.size + 1, m, none⟩ (.int .i64 1) := ⟨_, rfl⟩
      rw [← hw1] at HX ⊢
      clear hw1 g1 g2
      go_wp2
      go_loopw [19] (fun v19 wr => ∃ k : Nat, v19 = .int .i64 k ∧ k ≤ 4 ∧ Aside0 (CtAt s w b (upd f m (psum ((bl s).drop m) k)) wr)) (fun v19 _ => 4 - (intOf v19).toNat)
      case atStart => exact ⟨0, rfl, by omega, HX⟩
      case round =>
        clear HX
        obtain ⟨k, rfl, hk, HX⟩ := hrel
        have hq1 := nx_le (bl s) m (97 + k) (by rw [bl_length]; exact hm)
        rw [bl_length] at hq1
        by_cases hlt : k < 4
        · have c5 : (k : Int) < 4 := by omega
          have HK := Aside0.mk hlt
          obtain ⟨q, hq⟩ : ∃ q, nx (bl s) m (97 + k) = q := ⟨_, rfl⟩
          have HT := Aside0.mk (show term ((bl s).drop m) (97 + k) = if q < s.size then cs ((bl s).drop (q + 1)) else 0 by rw [term_at _ _ _ (by rw [bl_length]; exact hm), hq, bl_length])
          have HBD := Aside0.mk (show (psum ((bl s).drop m) (k + 1) : Int) ≤ 1152921504606846976 by
            have h1 := psum_mono ((bl s).drop m) (show k + 1 ≤ 4 by omega)
            rw [← cs_eq] at h1
            have h2 := cs_60 (l := (bl s).drop m) (by rw [List.length_drop, bl_length]; have := HS.out; omega)
            omega)
          rw [hq] at hq1
          have hq2 : q ≤ 60 := by have := HS.out; omega
          have HQ := Aside0.mk hq
          clear hq hlt
          by_cases hr : q < s.size
          · have HR := Aside0.mk (decide_eq_true hr)
            have HQS := Aside0.mk hr
            have HT := HT.out
            rw [if_pos hr] at HT
            have HT := Aside0.mk HT
            clear hr
            go_upto_region 11 with (go_at_call 57; (with_reducible refine (after_c _ b s HX.out.wd HS.out m k q true hm HK.out HQ.out HR.out).mono ?_); rintro e wa ⟨rfl, HD2⟩; have HX2 := Aside0.mk (HX.out.below HD2.below); clear HD2)
            obtain ⟨p, hp⟩ : ∃ p : Int, (psum ((bl s).drop m) k : Int) = p := ⟨_, rfl⟩
            obtain ⟨z, hz⟩ : ∃ z : Int, (cs ((bl s).drop (q + 1)) : Int) = z := ⟨_, rfl⟩
            have HP := Aside0.mk (show (psum ((bl s).drop m) (k + 1) : Int) = p + z by rw [psum_succ, HT.out]; omega)
            have r1 : wa.cell? ⟨w.heap.size + 1, m, none⟩ = some (.int .i64 p) := (blk_cell HX2.out.arr _).trans ((acells_at _ m (by omega)).trans (by rw [← hp]; simp [upd]))
            have r2 : wa.cell? ⟨w.heap.size + 1, q + 1, none⟩ = some (.int .i64 z) := (blk_cell HX2.out.arr _).trans ((acells_at _ (q + 1) (by have := HQS.out; have := HS.out; omega)).trans (by rw [← hz]; unfold upd; rw [if_neg (by omega), HD.out.at_ (q + 1) (by omega) (by rw [bl_length]; have := HQS.out; omega)]))
            have r3 := blk_frozen HX2.out.arr m
            have c6 : ((q : Int) + 1) < 61 := by have := HQS.out; have := HS.out; omega
            have c7 : (0 : Int) ≤ (q : Int) + 1 := by omega
            have c8 : ((q : Int) + 1).toNat = q + 1 := by omega
            have c9 : IntKind.i64.wrap (p + z) = p + z := IntWalk.i64_in _ (by have h1 := HP.out; have h2 := HBD.out; omega) 
            have HPZ := Aside0.mk hp
            clear hp hz
            refine start_ (n := 9) (S := fun w' => w'.cell? ⟨w.heap.size + 1, m, none⟩ = some (.int .i64 p) ∧ w'.cell? ⟨w.heap.size + 1, q + 1, none⟩ = some (.int .i64 z)) (ds := [8]) #[false, false, false, false, false, false, false, false, false] (by kernel_rfl) rfl rfl ⟨r1, r2⟩ (fun hHeld => ?_)
            refine pure_ (i := 0) (N := (some 30)) (v := ?_) (a' := ?_) #[true, false, false, false, false, false, false, false, false] rfl rfl (by kernel_rfl) (fun _ _ _ h => h) (Or.inl ⟨by rfl, ?_⟩) ?_ ?_
            rotate_left
            · intro w'
              go_simp
              with_reducible rfl
            rotate_left
            · simp only [Act.put, List.setIfInBounds_toArray, List.set_cons_zero, List.set_cons_succ, i64_w, i32_w]
              rfl
            refine pure_ (i := 1) (N := (some 31)) (v := ?_) (a' := ?_) #[true, true, false, false, false, false, false, false, false] rfl rfl (by kernel_rfl) (fun _ _ _ h => h) (Or.inl ⟨by rfl, ?_⟩) ?_ ?_
            rotate_left
            · intro w'
              go_simp
              with_reducible rfl
            rotate_left
            · simp only [Act.put, List.setIfInBounds_toArray, List.set_cons_zero, List.set_cons_succ, i64_w, i32_w]
              rfl
            refine take_ (i := 2) (N := (some 32)) (v := ?_) (a' := ?_) #[true, true, true, false, false, false, false, false, false] rfl rfl (by kernel_rfl) (fun _ _ _ h => h) (Or.inl ⟨by rfl, ?_⟩) hHeld ?_ ?_
            rotate_left
            · rintro w' ⟨s0, s1⟩
              go_simp
              with_reducible rfl
            rotate_left
            · simp only [Act.put, List.setIfInBounds_toArray, List.set_cons_zero, List.set_cons_succ, i64_w, i32_w]
              rfl
            refine pure_ (i := 3) (N := (some 33)) (v := ?_) (a' := ?_) #[true, true, true, true, false, false, false, false, false] rfl rfl (by kernel_rfl) (fun _ _ _ h => h) (Or.inl ⟨by rfl, ?_⟩) ?_ ?_
            rotate_left
            · intro w'
              go_simp
              with_reducible rfl
            rotate_left
            · simp only [Act.put, List.setIfInBounds_toArray, List.set_cons_zero, List.set_cons_succ, i64_w, i32_w]
              rfl
            refine pure_ (i := 4) (N := (some 34)) (v := ?_) (a' := ?_) #[true, true, true, true, true, false, false, false, false] rfl rfl (by kernel_rfl) (fun _ _ _ h => h) (Or.inl ⟨by rfl, ?_⟩) ?_ ?_
            rotate_left
            · intro w'
              go_simp
              with_reducible rfl
            rotate_left
            · simp only [Act.put, List.setIfInBounds_toArray, List.set_cons_zero, List.set_cons_succ, i64_w, i32_w]
              rfl
            refine take_ (i := 5) (N := (some 35)) (v := ?_) (a' := ?_) #[true, true, true, true, true, true, false, false, false] rfl rfl (by kernel_rfl) (fun _ _ _ h => h) (Or.inl ⟨by rfl, ?_⟩) hHeld ?_ ?_
            rotate_left
            · rintro w' ⟨s0, s1⟩
              go_simp
              with_reducible rfl
            rotate_left
            · simp only [Act.put, List.setIfInBounds_toArray, List.set_cons_zero, List.set_cons_succ, i64_w, i32_w]
              rfl
            refine pure_ (i := 6) (N := (some 36)) (v := ?_) (a' := ?_) #[true, true, true, true, true, true, true, false, false] rfl rfl (by kernel_rfl) (fun _ _ _ h => h) (Or.inl ⟨by rfl, ?_⟩) ?_ ?_
            rotate_left
            · intro w'
              go_simp
              with_reducible rfl
            rotate_left
            · simp only [Act.put, List.setIfInBounds_toArray, List.set_cons_zero, List.set_cons_succ, i64_w, i32_w]
              rfl
            refine pure_ (i := 7) (N := (some 37)) (v := ?_) (a' := ?_) #[true, true, true, true, true, true, true, true, false] rfl rfl (by kernel_rfl) (fun _ _ _ h => h) (Or.inl ⟨by rfl, ?_⟩) ?_ ?_
            rotate_left
            · intro w'
              go_simp
              with_reducible rfl
            rotate_left
            · simp only [Act.put, List.setIfInBounds_toArray, List.set_cons_zero, List.set_cons_succ, i64_w, i32_w]
              rfl
            refine last_ (i := 8) (N := none) #[true, true, true, true, true, true, true, true, true] rfl rfl (by kernel_rfl) (by decide) (fun K hK => ?_)
            refine skip_ (w1 := ?_) (by rfl) rfl ?_ ?_
            rotate_left
            · go_simp
              rfl
            refine hK.out _ _ ?_
            clear hK K
            refine done_ (by kernel_rfl) ?_
            have HX3 := Aside0.mk ((HX2.out.set HW.out m (by omega) (p + z)).below (below_drew (Below.refl _ _)))
            clear r1 r2 r3 c6 c7 c8 c9
            obtain ⟨w3, hw3⟩ : ∃ w3, w3 = (wa.setCell ⟨w.heap.size + 1, m, none⟩ (.int .i64 (p + z))).drew := ⟨_, rfl⟩
            rw [← hw3] at HX3 ⊢
            clear hw3
            go_wp2
            go_roundw
            case rel => exact ⟨k + 1, by go_num, HK.out, ⟨by rw [HP.out]; have := HX3.out; rwa [upd_upd] at this⟩⟩
            case measure => simp [intOf]; have := HK.out; omega
          · have HR := Aside0.mk (decide_eq_false hr)
            have HT := HT.out
            rw [if_neg hr] at HT
            have HT := Aside0.mk HT
            clear hr
            go_wp2_with (go_at_call 57; (with_reducible refine (after_c _ b s HX.out.wd HS.out m k q false hm HK.out HQ.out HR.out).mono ?_); rintro e wa ⟨rfl, HD2⟩; have HX2 := Aside0.mk (HX.out.below HD2.below); clear HD2)
            go_roundw
            case rel => exact ⟨k + 1, by go_num, HK.out, ⟨by rw [psum_succ, HT.out, Nat.add_zero]; exact HX2.out⟩⟩
            case measure => simp [intOf]; have := HK.out; omega
        · have hge : ¬ ((k : Int) < 4) := by omega
          have HX3 := Aside0.mk (show CtAt s w b (upd f m (cs ((bl s).drop m))) wr by have e : k = 4 := by omega
                                                                                      subst e; rw [cs_eq]; exact HX.out)
          clear HX hlt hq1
          go_wp2
          go_roundw
          case rel => exact ⟨(m : Int) - 1, _, rfl, by omega, by omega, HX3, ⟨fun j hj => by
            unfold upd
            by_cases e : j = m
            · subst e; rw [if_pos rfl]; unfold cntF; rw [if_pos (by rw [bl_length]; exact hm)]
            · rw [if_neg e]; exact HD.out j (by omega)⟩⟩
          case measure => simp [intOf]
    · obtain rfl : i = -1 := by omega
      clear hp hi1 hi2
      go_wp2_with (first | (with_reducible refine wpList_load_row rfl 84 (.tmp 3) rfl (w.heap.size + 1) rfl 84 _ (0, 0) _ HC.out.arr Try.underlying84 rfl (by rw [acells_size]; kernel_rfl) ?_) | (with_reducible refine store_arr (.tmp 2) (.tmp 39) rfl rfl w.heap.size _ f rfl rfl HC.out.res ?_; intro w1 hr1 hg1; have HR := Aside0.mk hr1; have HG := Aside0.mk hg1; clear hr1 hg1))
      refine bodyPost_ret (results_cell_row rfl _ _ w.heap.size 84 _ (0, 0) _ rfl HR.out Try.underlying84 rfl (by rw [acells_size]; kernel_rfl)) rfl ?_
      refine ⟨by rw [acells_congr (fun j _ => HD.out j (by omega))], HC.out.bel.grown HG.out HC.out.bel.size (fun k e => by injection e with e; omega)⟩
end Go.Proofs.Ytagdbadljcongaa.X
end

section
/- Small laws for the walks of this seat: append of a number and of a string; a string's bytes. -/
set_option linter.unusedVariables false
set_option linter.unusedSimpArgs false
namespace Go.Proofs.Ytagdbadljcongaa.X
open Go.RowKit Go.Proofs.YtagdbadljcongaaW.PrintWords Go.Proofs.YtagdbadljcongaaW.PrintLast Go.Proofs.YtagdbadljcongaaW.PrintMore
theorem info3w : (Try.prog.info? 3).map (fun i => (i.zero, i.size, i.bytes)) = some (some (.int .i64 0), 1, 8) := by kernel_rfl
theorem info9w : (Try.prog.info? 9).map (fun i => (i.zero, i.size, i.bytes)) = some (some (.string ByteArray.empty), 1, 16) := by kernel_rfl
/-- append of one whole number, as an arm. -/
theorem app_int {w W : World} {base : Nat} {ok : Nat → Prop} {A : Option Addr} {c : Nat} {xs : List Int} {x : Int} (hr : Kd.R (Kd.int .i64) 3 W base ok (.slice A xs.length c) xs) (hB : Below base w W) (hbase : base ≤ W.heap.size) (hfresh : ∀ k, W.heap.size ≤ k → ok k) (hl : xs.length ≤ 1000000) (i j : Nat) (ops : Array Oper) (rest : List Oper) (o : Oper) (a : Act) (Q : Exit → Act → World → Prop)
    (hgd : o.guard = none) (ho : o.op = .call { callee := .builtin .append, args := #[.tmp i, .tmp j], argTypes := #[23, 23] }) (hs : a.eval (.tmp i) = .slice A xs.length c) (hx : a.eval (.tmp j) = .slice (some ⟨W.heap.size, 0, none⟩) 1 1)
    (h : ∀ A' c' w', Kd.R (Kd.int .i64) 3 w' base ok (.slice A' (xs.length + 1) c') (xs ++ [x]) → Below base w w' → W.grownBy w' (Value.slice A xs.length c).ownBlock → ((Value.slice A' (xs.length + 1) c').ownBlock = (Value.slice A xs.length c).ownBlock ∨ ∃ q, (Value.slice A' (xs.length + 1) c').ownBlock = some q ∧ W.heap.size ≤ q) → wpList Try.prog ops Q rest (a.put o.dst (.slice A' (xs.length + 1) c')) w') :
    wpList Try.prog ops Q (o :: rest) a (W.alloc (.cells #[.int .i64 x] 3)) := by
  refine Kd.R_append (Kd.int .i64) (w0 := w) base hgd (.tmp i) (.tmp j) 23 3 (.int .i64 0) 8 ho Try.underlying23 info3w rfl (by decide) (by omega) (.slice A xs.length c) xs x [.int .i64 x] ok (fun _ => False) hs hx rfl (fun _ h => h.elim) hfresh hr hB hbase (by omega) ?_
  intro v1 w1 ho hb hg hat
  obtain ⟨A', c', rfl⟩ := Kd.R_slice ho
  have e : (xs ++ [x]).length = xs.length + 1 := by simp
  rw [e] at ho hat ⊢
  exact h A' c' w1 ho hb hg hat
/-- append of one string, as an arm. -/
theorem app_str {w W : World} {base : Nat} {ok : Nat → Prop} {A : Option Addr} {c : Nat} {xs : List ByteArray} {x : ByteArray} (hr : Kd.R Kd.string 9 W base ok (.slice A xs.length c) xs) (hB : Below base w W) (hbase : base ≤ W.heap.size) (hfresh : ∀ k, W.heap.size ≤ k → ok k) (hl : xs.length ≤ 1000000) (i j : Nat) (ops : Array Oper) (rest : List Oper) (o : Oper) (a : Act) (Q : Exit → Act → World → Prop)
    (hgd : o.guard = none) (ho : o.op = .call { callee := .builtin .append, args := #[.tmp i, .tmp j], argTypes := #[53, 53] }) (hs : a.eval (.tmp i) = .slice A xs.length c) (hx : a.eval (.tmp j) = .slice (some ⟨W.heap.size, 0, none⟩) 1 1)
    (h : ∀ A' c' w', Kd.R Kd.string 9 w' base ok (.slice A' (xs.length + 1) c') (xs ++ [x]) → Below base w w' → W.grownBy w' (Value.slice A xs.length c).ownBlock → ((Value.slice A' (xs.length + 1) c').ownBlock = (Value.slice A xs.length c).ownBlock ∨ ∃ q, (Value.slice A' (xs.length + 1) c').ownBlock = some q ∧ W.heap.size ≤ q) → wpList Try.prog ops Q rest (a.put o.dst (.slice A' (xs.length + 1) c')) w') :
    wpList Try.prog ops Q (o :: rest) a (W.alloc (.cells #[.string x] 9)) := by
  refine Kd.R_append Kd.string (w0 := w) base hgd (.tmp i) (.tmp j) 53 9 (.string ByteArray.empty) 16 ho Try.underlying53 info9w rfl (by decide) (by omega) (.slice A xs.length c) xs x [.string x] ok (fun _ => False) hs hx rfl (fun _ h => h.elim) hfresh hr hB hbase (by omega) ?_
  intro v1 w1 ho hb hg hat
  obtain ⟨A', c', rfl⟩ := Kd.R_slice ho
  have e : (xs ++ [x]).length = xs.length + 1 := by simp
  rw [e] at ho hat ⊢
  exact h A' c' w1 ho hb hg hat
theorem conv_run (u : ByteArray) (W : World) : (convert 9 36 (.string u)).run Try.prog W = .ok (.slice (some ⟨W.heap.size, 0, none⟩) u.size (grownCap W u.size 0 5)) (Lib.bytesWorld W 5 u) :=
  Lib.run_convert_string_bytes W 9 36 5 u Try.underlying9 Try.underlying36 Try.underlying5
theorem conv_below (u : ByteArray) (W : World) : Below W.heap.size W (Lib.bytesWorld W 5 u) :=
  ⟨rfl, rfl, rfl, by rw [Lib.bytesWorld_size]; omega, fun k hk => Lib.bytesWorld_at_old W 5 u k hk⟩
theorem conv_cell (u : ByteArray) (W : World) (j : Nat) (hj : j < u.size) : (Lib.bytesWorld W 5 u).cell? ⟨W.heap.size, j, none⟩ = some (.int .u8 ((bl u)[j]'(by rw [bl_length]; exact hj) : Nat)) := by
  rw [Lib.bytesWorld_cell W 5 u j hj]
  simp [bl, List.getD_eq_getElem?_getD, hj]
end Go.Proofs.Ytagdbadljcongaa.X
end

section
/- thread.Within. -/
set_option linter.unusedVariables false
set_option linter.unusedSimpArgs false
namespace Go.Proofs.Ytagdbadljcongaa.X
open Go.RowKit Go.Proofs.YtagdbadljcongaaW.PrintWords Go.Proofs.YtagdbadljcongaaW.PrintLast Go.Proofs.YtagdbadljcongaaW.PrintMore
theorem count0 (f : Nat → Int) (W : World) : (Instr.index 84 (.agg (acells f)) (.int .i64 0)).run Try.prog W = .ok (.int .i64 (f 0)) W := by kernel_rfl
set_option maxHeartbeats 2000000 in
set_option maxRecDepth 100000 in
theorem count_y (s : ByteArray) (w : World) (h : isW (bl s) = true) : Calls Try.prog 27 #[.string s] w fun e w' => e = .returned (.tuple #[.int .i64 (cs (bl s)), .int .i64 0]) ∧ Below w.heap.size w w' := by
  have HS := Aside0.mk (show s.size ≤ 60 by rw [← bl_length]; exact ((isW_iff _).1 h).1)
  have H := Aside0.mk h
  have h0 := count0 (cntF (bl s))
  clear h
  go_enter Try.func27, Try.ntmps27
  go_wp2_with (first | (go_at_call 48; (with_reducible refine (newWord_yes _ _ H.out).mono ?_); rintro e w1 ⟨rfl, hwd, hb⟩; have HWD := Aside0.mk hwd; have HB := Aside0.mk hb; clear hwd hb) | (go_at_call 53; (with_reducible refine (counts_any _ _ s HWD.out HS.out).mono ?_); rintro e w2 ⟨rfl, hb⟩; have HB2 := Aside0.mk hb; clear hb))
  go_ret2
  exact ⟨by unfold cntF; rfl, below_step HB.out HB2.out⟩
/-- What Within returns. -/
def WiPost (r : Option (List Nat)) (w : World) (e : Ending) (w' : World) : Prop :=
  ∃ v, (match r with
    | some xs => e = .returned (.tuple #[v, .int .i64 0]) ∧ Kd.R (Kd.int .i64) 3 w' w.heap.size (fun _ => True) v (xs.map fun (n : Nat) => (n : Int))
    | none => v = .slice none 0 0 ∧ e = .returned (.tuple #[v, .int .i64 6])) ∧ Below w.heap.size w w'
theorem letter_at {l : List Nat} (h : isW l = true) (k : Nat) (hk : k < l.length) : ∃ c, l[k] = 97 + c ∧ c < 4 := by
  have := ((isW_iff l).1 h).2 _ (List.getElem_mem hk)
  exact ⟨l[k] - 97, by omega, by omega⟩
theorem wth_step {l u : List Nat} {i k c q : Nat} (hk : k < u.length) (hc : u[k] = 97 + c) (hq : nx l i (97 + c) = q) : wth l i (u.drop k) = if q < l.length then (wth l (q + 1) (u.drop (k + 1))).map (q :: ·) else none := by
  rw [List.drop_eq_getElem_cons hk, hc]
  show (if nx l i (97 + c) < l.length then (wth l (nx l i (97 + c) + 1) (u.drop (k + 1))).map (nx l i (97 + c) :: ·) else none) = _
  rw [hq]
set_option maxHeartbeats 4000000 in
set_option maxRecDepth 100000 in
theorem within_ok (u s : ByteArray) (w : World) (hu : isW (bl u) = true) (hs : isW (bl s) = true) (r : Option (List Nat)) (hr : wth (bl s) 0 (bl u) = r) : Calls Try.prog 32 #[.string u, .string s] w (WiPost r w) := by
  have HU := Aside0.mk hu
  have HS := Aside0.mk hs
  have HS60 := Aside0.mk (show s.size ≤ 60 by rw [← bl_length]; exact ((isW_iff _).1 hs).1)
  have HU60 := Aside0.mk (show u.size ≤ 60 by rw [← bl_length]; exact ((isW_iff _).1 hu).1)
  have HRR := Aside0.mk hr
  have hcv := conv_run u
  clear hu hs hr
  go_enter Try.func32, Try.ntmps32
  go_wp2_with (first | (go_at_call 48; (with_reducible refine (newWord_yes u _ HU.out).mono ?_); rintro e w1 ⟨rfl, hwd, hb⟩; have HWU := Aside0.mk hwd; have HB := Aside0.mk hb; clear hwd hb) | (go_at_call 48; (with_reducible refine (newWord_yes s _ HS.out).mono ?_); rintro e w2 ⟨rfl, hwd, hb⟩; have HWS := Aside0.mk hwd; have HB2 := Aside0.mk hb; have t1 := (HWU.out.below hb).text; clear hwd hb))
  clear t1
  obtain ⟨g, hg⟩ : ∃ g, w2.heap.size = g := ⟨_, rfl⟩
  obtain ⟨b, hb⟩ : ∃ b, w1.heap.size = b := ⟨_, rfl⟩
  obtain ⟨cap, hcap⟩ : ∃ cap, grownCap w2 u.size 0 5 = cap := ⟨_, rfl⟩
  have HWD := Aside0.mk (show WordAt (Lib.bytesWorld w2 5 u) b s by rw [← hb]; exact HWS.out.below (conv_below u w2))
  have HCC := Aside0.mk (show ∀ j (hj : j < u.size), (Lib.bytesWorld w2 5 u).cell? ⟨g, j, none⟩ = some (.int .u8 ((bl u)[j]'(by rw [bl_length]; exact hj) : Nat)) by rw [← hg]; exact fun j hj => conv_cell u w2 j hj)
  have HB0 := Aside0.mk (show Below w.heap.size w (Lib.bytesWorld w2 5 u) from below_step (below_step HB.out HB2.out) (conv_below u w2))
  obtain ⟨W0, hW0⟩ : ∃ W0, Lib.bytesWorld w2 5 u = W0 := ⟨_, rfl⟩
  rw [hW0] at HWD HCC HB0 ⊢
  simp only [hg, hb, hcap]
  clear hcv hW0 hg hb hcap HB HB2 HWS HWU
  go_loopw [10, 11, 38] (fun v10 v11 v38 wr => ∃ (k i : Nat) (A : Option Addr) (c : Nat) (xs : List Int), v38 = .int .i64 k ∧ v11 = .int .i64 i ∧ v10 = .slice A xs.length c ∧ k ≤ u.size ∧ i ≤ s.size ∧ Aside0 (xs.length ≤ k) ∧
      Aside0 (Kd.R (Kd.int .i64) 3 wr W0.heap.size (fun _ => True) (.slice A xs.length c) xs) ∧ Aside0 (Below W0.heap.size W0 wr) ∧ Aside0 (∃ pre : List Nat, xs = pre.map (fun (n : Nat) => (n : Int)) ∧ (wth (bl s) i ((bl u).drop k)).map (pre ++ ·) = r)) (fun _ _ v38 _ => u.size - (intOf v38).toNat)
  case atStart => exact ⟨0, 0, none, 0, [], rfl, rfl, rfl, by omega, by omega, ⟨by simp⟩, ⟨Kd.R_nil _ _ _ _ _⟩, ⟨Below.refl _ _⟩, ⟨[], rfl, by
    rw [List.drop_zero, HRR.out]; cases r <;> simp⟩⟩
  case round =>
    obtain ⟨k, i, A, c, xs, rfl, rfl, rfl, hk, hi, HP, HR, HB, HE⟩ := hrel
    clear HRR
    by_cases hlt : k < u.size
    · obtain ⟨d, hd, hd4⟩ := letter_at HU.out k (by rw [bl_length]; exact hlt)
      have t1 : wr.cell? ⟨g, k, none⟩ = some (.int .u8 (97 + (d : Int))) := by
        rw [pw_cell_below HB.out (HCC.out k hlt), hd]; simp
      have HWR := Aside0.mk (HWD.out.below HB.out)
      obtain ⟨q, hq⟩ : ∃ q, nx (bl s) i (97 + d) = q := ⟨_, rfl⟩
      have hq1 := nx_le (bl s) i (97 + d) (by rw [bl_length]; exact hi)
      rw [hq, bl_length] at hq1
      have HW := Aside0.mk (wth_step (by rw [bl_length]; exact hlt) hd hq)
      have HQ := Aside0.mk hq
      have HD4 := Aside0.mk hd4
      have c1 : (97 : Int) + (d : Int) - 97 = (d : Int) := by omega
      have c2 : (d : Int) < 4 := by omega
      have hq2 : q ≤ 60 := by have := HS60.out; omega
      have hk2 : (k : Int) < 60 := by have := HU60.out; omega
      have HLT := Aside0.mk hlt
      have HI := Aside0.mk hi
      have hltI : (k : Int) < (u.size : Int) := by omega
      clear hd hq hd4 hlt
      by_cases hqs : q < s.size
      · have HQS := Aside0.mk hqs
        have HR1 := Aside0.mk (decide_eq_true hqs)
        clear hqs
        go_upto_region 13 with (go_at_call 57; (with_reducible refine (after_c _ b s HWR.out HS60.out i d q true HI.out HD4.out HQ.out HR1.out).mono ?_); rintro e wa ⟨rfl, HDR⟩; have HBA := Aside0.mk HDR.below; clear HDR)
        have HRA := Aside0.mk (Kd.R_below HR.out HBA.out)
        have HBW := Aside0.mk (below_step HB.out HBA.out)
        have KEY := Aside0.mk (app_int (x := (q : Int)) HRA.out HBW.out HBW.out.size (fun _ _ => trivial) (by have := HP.out; omega) 53 56)
        go_wp2_with (at_builtin; refine KEY.out _ _ _ _ _ rfl rfl rfl rfl ?_; intro A2 c2 w3 hr3 hb3 hg3 hat3; have HR3 := Aside0.mk hr3; have HB3 := Aside0.mk hb3; clear hr3 hb3 hg3 hat3)
        go_roundw
        case rel => exact ⟨k + 1, q + 1, A2, c2, xs ++ [(q : Int)], by go_num, by go_num, by simp, by have := HLT.out; omega, by have := HQS.out; omega, ⟨by have := HP.out; simp; omega⟩, ⟨by rw [List.length_append]; exact HR3.out⟩, HB3, ⟨by
          obtain ⟨pre, h1, h2⟩ := HE.out
          have h3 := HW.out
          rw [if_pos (by rw [bl_length]; exact HQS.out)] at h3
          refine ⟨pre ++ [q], by rw [h1]; simp, ?_⟩
          rw [← h2, h3]
          cases wth (bl s) (q + 1) ((bl u).drop (k + 1)) <;> simp⟩⟩
        case measure => simp [intOf]; have := HLT.out; omega
      · have HR1 := Aside0.mk (decide_eq_false hqs)
        have HQS := Aside0.mk hqs
        clear hqs
        go_wp2_with (go_at_call 57; (with_reducible refine (after_c _ b s HWR.out HS60.out i d q false HI.out HD4.out HQ.out HR1.out).mono ?_); rintro e wa ⟨rfl, HDR⟩; have HBA := Aside0.mk HDR.below; clear HDR)
        go_ret2
        refine ⟨.slice none 0 0, ?_, below_then (HB0.out.trans (HB.out.mono HB0.out.size)) (Nat.le_trans HB0.out.size HB.out.size) HBA.out⟩
        obtain ⟨pre, h1, h2⟩ := HE.out
        have h3 := HW.out
        rw [if_neg (by rw [bl_length]; exact HQS.out)] at h3
        rw [h3] at h2
        subst h2
        exact ⟨rfl, rfl⟩
    · have HLT := Aside0.mk (show k = u.size by omega)
      have hltI : ¬ ((k : Int) < (u.size : Int)) := by omega
      clear hlt
      go_wp2
      go_ret2
      refine ⟨.slice A xs.length c, ?_, HB0.out.trans (HB.out.mono HB0.out.size)⟩
      obtain ⟨pre, h1, h2⟩ := HE.out
      rw [HLT.out, ← bl_length, List.drop_length] at h2
      simp [wth] at h2
      subst h2
      refine ⟨rfl, ?_⟩
      rw [← h1]
      exact Kd.R_lower HR.out HB0.out.size
end Go.Proofs.Ytagdbadljcongaa.X
end

section
/- A range over a function that hands out the first letters, one after the other: the law of the statement with an invariant that counts the rounds; alphabet's contract; leaving a function with marks. -/
set_option linter.unusedVariables false
set_option linter.unusedSimpArgs false
namespace Go.Proofs.Ytagdbadljcongaa.X
open Go Go.RowKit Go.Proofs.YtagdbadljcongaaW.PrintWords Go.Proofs.YtagdbadljcongaaW.PrintLast Go.Proofs.YtagdbadljcongaaW.PrintMore
section
variable {F : Fence} {n : Nat} {P : Program}
/-- The iterator's contract: it hands out encs 0, encs 1, .., encs (k - 1) in turn until a round says 'no more'. -/
def SeqJ (F : Fence) (n : Nat) (P : Program) (g : Nat) (lb : Array Value) (encs : Nat → Array Value) (k : Nat) (w : World) : Prop :=
  ∀ (l : Nat) (J Jx : Nat → World → Prop) (W : World), Below w.heap.size w W →
    (∀ c W1, c < k → J c W1 → YieldAt F (n - 1) P l (encs c) W1 fun e W' => (e = .returned (.bool true) ∧ J (c + 1) W') ∨ (e = .returned (.bool false) ∧ Jx c W')) → J 0 W →
    CallsIn F n P g (#[.func (.yield l) #[] #[]] ++ lb) W fun e W' => (∃ v, e = .returned v) ∧ (J k W' ∨ ∃ c, c < k ∧ Jx c W')
/-- How a round's body may be left. -/
def postJ (I : Nat → World → Prop) (Ix : Code → Nat → World → Prop) (c : Nat) (W : World) : Exit → Act → World → Prop
  | .normal, _, W' => KeepsOthers W W' ∧ I (c + 1) W'
  | .ret, _, W' => KeepsOthers W W' ∧ Ix .ret c W'
  | .exit id, _, W' => KeepsOthers W W' ∧ Ix (.exit id) c W'
  | .goto t, _, W' => KeepsOthers W W' ∧ Ix (.goto t) c W'
  | .panic _, _, _ => False
  | .outgrown, _, _ => False
theorem wpIn_rangeFunc_J {g : Operand} {ps : Array Tmp} {assign body : Code} {Q : Exit → Act → World → Prop} {a : Act} {w : World}
    (hro : F.round = none) (h1 : 1 ≤ n) {gf : Nat} {lb : Array Value} (hg : a.eval g = .func (.func gf) #[] lb) (hFg : F.fn gf) (eg : ∀ args w, (callFunc gf args).run P w = .ok (.enter gf args) w)
    {encs : Nat → Array Value} {k : Nat} (hseq : SeqJ F (n - 1) P gf lb encs k w) (hps : ∀ x, (encs x).size = ps.size)
    (I : Nat → World → Prop) (Ix : Code → Nat → World → Prop)
    (hI : ∀ c W l o o', w.heap.size ≤ l → W.heap[l]? = some o → o.isCells = false → I c W → I c (W.putObj l o'))
    (hIx : ∀ e c W l o o', w.heap.size ≤ l → W.heap[l]? = some o → o.isCells = false → Ix e c W → Ix e c (W.putObj l o'))
    (h0 : ∀ o o', I 0 ((w.alloc o).alloc o')) (a₁ : Nat → Act)
    (hassign : ∀ (l : Nat) (c : Nat) (W : World) (K : Act → World → Prop), K (a₁ c) W →
      assign.wpIn (F.inRound l) (n - 1 - 1) P (Exit.then K (fun _ _ _ => False)) { tmps := (ps.zip (encs c)).foldl (fun t (p, v) => t.setIfInBounds p v) a.tmps, defers := [] } W)
    (hbody : ∀ (l : Nat) (c : Nat) (W : World), w.heap.size ≤ l → c < k → I c W → body.wpIn (F.inRound l) (n - 1 - 1) P (postJ I Ix c W) (a₁ c) W)
    (hdone : ∀ (D : Nat) (W : World), w.heap.size ≤ D → I k W → W.heap[D]? = some (.deferred (some [])) → Q .normal { a with defers := { target := .collected D, args := #[] } :: a.defers } W)
    (hstop : ∀ (D : Nat) (e : Code) (c : Nat) (W : World), w.heap.size ≤ D → c < k → Ix e c W → W.heap[D]? = some (.deferred (some [])) → e.wpIn F n P Q { a with defers := { target := .collected D, args := #[] } :: a.defers } W) :
    (Code.rangeFunc g ps assign body).wpIn F n P Q a w := by
  refine wpIn_rangeFunc ?_
  intro fn hfn
  rw [hro]
  obtain ⟨rec, hrec⟩ : ∃ rec : LoopState → Option Code → Loop, rec = fun st pe => { state := st, pending := pe, fn, tmps := a.tmps, params := ps, assign, body, defers := w.heap.size } := ⟨_, rfl⟩
  obtain ⟨W1, hW1⟩ : ∃ W1, (w.alloc (.deferred (some []))).alloc (.loop (rec .ready none)) = W1 := ⟨_, rfl⟩
  have hL1 : W1.heap[w.heap.size + 1]? = some (.loop (rec .ready none)) := by
    rw [← hW1]; have := World.alloc_heap_new (w.alloc (.deferred (some []))) (.loop (rec .ready none)); rwa [World.size_alloc] at this
  have hK1 : W1.heap[w.heap.size]? = some (.deferred (some [])) := by
    rw [← hW1]; exact (Below.heap_alloc _ _ _ (by simp)).trans (World.alloc_heap_new w _)
  have hI1 : I 0 W1 := by rw [← hW1]; exact h0 _ _
  have hb1 : Below w.heap.size w W1 := by
    rw [← hW1]; exact ((Below.refl _ w).alloc (Nat.le_refl _) _).alloc (by simp) _
  refine ⟨w.heap.size + 1, [{ target := .collected w.heap.size, args := #[] }], W1, { target := .fn (.func gf) lb, args := #[.func (.yield (w.heap.size + 1)) #[] #[]] }, W1, gf,
    #[.func (.yield (w.heap.size + 1)) #[] #[]] ++ lb, W1, ?_, ?_, ?_, ?_, fun _ => h1, ?_⟩
  · rw [← hW1, hrec]; exact run_enterLoop_outer _ _ _ _ _
  · simp only [resolve, hg]
    simp [go_sem]
  · intro f' hf'; simp [Target.leads] at hf'; subst hf'; exact hFg
  · simp [invoke, go_sem, eg]
  · refine (hseq (w.heap.size + 1)
      (fun c W => I c W ∧ W.heap[w.heap.size + 1]? = some (.loop (rec .ready none)) ∧ W.heap[w.heap.size]? = some (.deferred (some [])))
      (fun c W => ∃ e, Ix e c W ∧ W.heap[w.heap.size + 1]? = some (.loop (rec .done (some e))) ∧ W.heap[w.heap.size]? = some (.deferred (some [])))
      W1 hb1 ?_ ⟨hI1, hL1, hK1⟩).mono ?_
    · rintro c W hck ⟨hIc, hl, hk⟩
      have hlt : w.heap.size + 1 < W.heap.size := (Array.getElem?_eq_some_iff.1 hl).1
      have hy := run_yield (P := P) (args := encs c) hl (by rw [hrec]; exact hps c)
      rw [hrec] at hy
      refine ⟨fn, _, assign, body, hy, roundIn_of_wpIn hfn (hassign _ c W _ ⟨_, run_beginRound hl (by rw [hrec]), ?_⟩)⟩
      have hl2 : (W.putObj (w.heap.size + 1) (.loop { rec .ready none with state := .busy })).heap[w.heap.size + 1]? = some (.loop { rec .ready none with state := .busy }) := World.putObj_heap_same hlt
      have hk2 : (W.putObj (w.heap.size + 1) (.loop { rec .ready none with state := .busy })).heap[w.heap.size]? = some (.deferred (some [])) := (World.putObj_heap_other (by omega)).trans hk
      refine wpIn_mono (hbody _ c _ (by omega) hck (hI _ _ _ _ _ (by omega) hl rfl hIc)) ?_
      have fin : ∀ (jump : Option Code) (W3 : World), W3.heap[w.heap.size + 1]? = some (.loop { rec .ready none with state := .busy }) → W3.heap[w.heap.size]? = some (.deferred (some [])) →
          (Instr.endRound (w.heap.size + 1) jump).run P W3 = .ok (.bool jump.isNone) (W3.putObj (w.heap.size + 1) (.loop (rec (if jump.isNone then .ready else .done) jump))) ∧
          (W3.putObj (w.heap.size + 1) (.loop (rec (if jump.isNone then .ready else .done) jump))).heap[w.heap.size + 1]? = some (.loop (rec (if jump.isNone then .ready else .done) jump)) ∧
          (W3.putObj (w.heap.size + 1) (.loop (rec (if jump.isNone then .ready else .done) jump))).heap[w.heap.size]? = some (.deferred (some [])) := fun jump W3 hl3 hk3 => by
        have := run_endRound (P := P) jump hl3
        rw [hrec] at this ⊢
        exact ⟨this, World.putObj_heap_same (Array.getElem?_eq_some_iff.1 hl3).1, (World.putObj_heap_other (by omega)).trans hk3⟩
      rintro e a3 W3 hp
      cases e with
      | normal =>
        obtain ⟨hk3, hi3⟩ := hp
        have h3l := hk3.same _ _ hl2 rfl
        obtain ⟨hr, hl4, hk4⟩ := fin none W3 h3l (hk3.same _ _ hk2 rfl)
        exact ⟨_, _, hr, .inl ⟨rfl, hI _ _ _ _ _ (by omega) h3l rfl hi3, hl4, hk4⟩⟩
      | ret =>
        obtain ⟨hk3, hi3⟩ := hp
        have h3l := hk3.same _ _ hl2 rfl
        obtain ⟨hr, hl4, hk4⟩ := fin (some .ret) W3 h3l (hk3.same _ _ hk2 rfl)
        exact ⟨_, _, hr, .inr ⟨rfl, .ret, hIx _ _ _ _ _ _ (by omega) h3l rfl hi3, hl4, hk4⟩⟩
      | exit id =>
        obtain ⟨hk3, hi3⟩ := hp
        have h3l := hk3.same _ _ hl2 rfl
        obtain ⟨hr, hl4, hk4⟩ := fin (some (.exit id)) W3 h3l (hk3.same _ _ hk2 rfl)
        exact ⟨_, _, hr, .inr ⟨rfl, .exit id, hIx _ _ _ _ _ _ (by omega) h3l rfl hi3, hl4, hk4⟩⟩
      | goto t =>
        obtain ⟨hk3, hi3⟩ := hp
        have h3l := hk3.same _ _ hl2 rfl
        obtain ⟨hr, hl4, hk4⟩ := fin (some (.goto t)) W3 h3l (hk3.same _ _ hk2 rfl)
        exact ⟨_, _, hr, .inr ⟨rfl, .goto t, hIx _ _ _ _ _ _ (by omega) h3l rfl hi3, hl4, hk4⟩⟩
      | panic ch => exact hp.elim
      | outgrown => exact hp.elim
    · rintro e W2 ⟨⟨v, rfl⟩, (⟨hIk, hl, hk⟩ | ⟨c, hck, cd, hi, hl, hk⟩)⟩
      · exact ⟨none, _, by have := run_endLoop (P := P) hl (by rw [hrec]; simp); rw [hrec] at this; exact this, hdone _ _ (Nat.le_refl _) (hI _ _ _ _ _ (by omega) hl rfl hIk) ((World.putObj_heap_other (by omega)).trans hk)⟩
      · exact ⟨some cd, _, by have := run_endLoop (P := P) hl (by rw [hrec]; simp); rw [hrec] at this; exact this, hstop _ cd c _ (Nat.le_refl _) hck (hIx _ _ _ _ _ _ (by omega) hl rfl hi) ((World.putObj_heap_other (by omega)).trans hk)⟩
/-- The marks of the ranges that the function has gone through. -/
def Marks (lo : Nat) (W : World) : List Deferred → Prop
  | [] => True
  | d :: ds => (∃ D, lo ≤ D ∧ d = { target := .collected D, args := #[] } ∧ W.heap[D]? = some (.deferred (some [])) ∧ ∀ e ∈ ds, e ≠ { target := .collected D, args := #[] }) ∧ Marks lo W ds
theorem Marks.keeps {lo : Nat} {W W' : World} {ds : List Deferred} (h : Marks lo W ds) (hk : ∀ D, lo ≤ D → W.heap[D]? = some (.deferred (some [])) → ({ target := .collected D, args := #[] } : Deferred) ∈ ds → W'.heap[D]? = some (.deferred (some []))) : Marks lo W' ds := by
  induction ds with
  | nil => trivial
  | cons d ds ih =>
    obtain ⟨⟨D, h1, rfl, h3, h4⟩, h5⟩ := h
    exact ⟨⟨D, h1, rfl, hk D h1 h3 (by simp), h4⟩, ih h5 (fun D a b c => hk D a b (by simp [c]))⟩
theorem Marks.lt {lo : Nat} {W : World} {ds : List Deferred} (h : Marks lo W ds) {D : Nat} (hd : ({ target := .collected D, args := #[] } : Deferred) ∈ ds) : W.heap[D]? = some (.deferred (some [])) := by
  induction ds with
  | nil => simp at hd
  | cons d ds ih =>
    obtain ⟨⟨D', h1, rfl, h3, h4⟩, h5⟩ := h
    rcases List.mem_cons.1 hd with e | e
    · injection e with e; injection e with e; subst e; exact h3
    · exact ih h5 e
theorem Marks.keepsOthers {lo : Nat} {W W' : World} {ds : List Deferred} (h : Marks lo W ds) (hk : KeepsOthers W W') : Marks lo W' ds := h.keeps fun D _ a _ => hk.same _ _ a rfl
theorem Marks.below {lo : Nat} {W W' : World} {ds : List Deferred} (h : Marks lo W ds) (hb : Below W.heap.size W W') : Marks lo W' ds := h.keeps fun D _ a _ => blk_below a hb
theorem Marks.put {lo : Nat} {W : World} {ds : List Deferred} (h : Marks lo W ds) {l : Nat} (hl : ∀ D, ({ target := .collected D, args := #[] } : Deferred) ∈ ds → D ≠ l) (o : Obj) : Marks lo (W.putObj l o) ds := h.keeps fun D _ a c => (World.putObj_heap_other (hl D c)).trans a
theorem Marks.cons {lo : Nat} {W : World} {ds : List Deferred} (h : Marks lo W ds) {D : Nat} (hl : lo ≤ D) (hD : W.heap[D]? = some (.deferred (some []))) (hn : ∀ D', ({ target := .collected D', args := #[] } : Deferred) ∈ ds → D' ≠ D) : Marks lo W ({ target := .collected D, args := #[] } :: ds) :=
  ⟨⟨D, hl, rfl, hD, fun e he e2 => by subst e2; exact hn D he rfl⟩, h⟩
/-- A function leaves by its marks: what its results read stays, and nothing below lo changes. -/
theorem leaves_marks {fn : Func} {tmps : Array Value} {R : Ending → World → Prop} {lo : Nat} : ∀ (ds : List Deferred) (W : World), Marks lo W ds →
    (∀ W', W'.heap.size = W.heap.size → (∀ (k : Nat) (o : Obj), W.heap[k]? = some o → o.isCells = true → W'.heap[k]? = some o) → Below lo W W' → LeavesInM F n P fn tmps R [] .returning W') → lo ≤ W.heap.size → LeavesInM F n P fn tmps R ds .returning W
  | [], W, _, h, hlo => h W rfl (fun k o h _ => h) (Below.refl _ _)
  | d :: ds, W, hm, h, hlo => by
    obtain ⟨⟨D, h1, rfl, h3, h4⟩, h5⟩ := hm
    refine ⟨by simp, .inl ⟨D, _, rfl, run_takeDeferred h3, ?_⟩⟩
    refine leaves_marks ds _ (h5.put (fun D' hD' e => by subst e; exact h4 _ hD' rfl) _) (fun W' hs hc hb => ?_) (by rw [World.putObj_size]; exact hlo)
    refine h W' (by rw [hs, World.putObj_size]) (fun k o hk ho => hc k o ?_ ho) ?_
    · rw [World.putObj_heap_other (fun e => by subst e; rw [h3] at hk; injection hk with hk; subst hk; cases ho)]; exact hk
    · exact ((Below.refl lo W).grown (grownBy_putObj' W D _) hlo (fun k e => by cases e; exact h1)).trans hb
end
/-- A slot of a frame. -/
def sl (U : Array Value) (j : Nat) : Value := U.getD j undef
theorem act_named {P : Program} {c : Code} {Q : Exit → Act → World → Prop} {a : Act} {w : World} (h : ∀ A : Act, A = a → c.wp P Q A w) : c.wp P Q a w := h a rfl
theorem ex_act {R : Prop} {F : Array Value → Act} {a : Act} (h1 : R) (h2 : a = F a.tmps) : ∃ U, R ∧ a = F U := ⟨a.tmps, h1, h2⟩
/-- A letter as a string. -/
def ltr (c : Nat) : ByteArray := ⟨#[UInt8.ofNat (97 + c)]⟩
set_option maxRecDepth 100000 in
theorem alphabet_calls (k : Int) (w : World) : Calls Try.prog 52 #[.int .i64 k] w fun e w' => e = .returned (.func (.func 70) #[] #[.pointer (some ⟨w.heap.size, 0, none⟩)]) ∧ w' = w.alloc (.cells #[.int .i64 k] 3) := by
  go_enter Try.func52, Try.ntmps52
  go_wp2
  go_ret
  exact ⟨rfl, rfl⟩
theorem encs_0 : (#[.int .i64 ((0 : Nat) : Int), .string (ltr 0)] : Array Value) = #[.int .i64 0, .string (Utf8.encode 97)] := by kernel_rfl
theorem encs_1 : (#[.int .i64 ((1 : Nat) : Int), .string (ltr 1)] : Array Value) = #[.int .i64 1, .string (Utf8.encode 98)] := by kernel_rfl
theorem encs_2 : (#[.int .i64 ((2 : Nat) : Int), .string (ltr 2)] : Array Value) = #[.int .i64 2, .string (Utf8.encode 99)] := by kernel_rfl
theorem encs_3 : (#[.int .i64 ((3 : Nat) : Int), .string (ltr 3)] : Array Value) = #[.int .i64 3, .string (Utf8.encode 100)] := by kernel_rfl
set_option maxHeartbeats 4000000 in
set_option maxRecDepth 100000 in
theorem alphabet_seq (k g : Nat) (w : World) (hk : k ≤ 4) (hg : w.heap[g]? = some (.cells #[.int .i64 k] 3 (0, 0))) : SeqJ Fence.wide 2 Try.prog 70 #[.pointer (some ⟨g, 0, none⟩)] (fun c => #[.int .i64 c, .string (ltr c)]) k w := by
  intro l J Jx W hW hY h0
  have hcg : W.cell? ⟨g, 0, none⟩ = some (.int .i64 k) := (blk_cell (blk_below hg hW) 0).trans rfl
  have HY := Aside0.mk hY
  have H0 := Aside0.mk h0
  have HK := Aside0.mk hk
  have hk2 : (k : Int) ≤ 4 := by omega
  clear hY h0 hW hg hk
  refine callsIn_of_wp Try.func70 rfl trivial ?_
  simp only [Try.ntmps70, List.size_toArray, List.length_cons, List.length_nil, Nat.reduceAdd, Nat.reduceSub, Array.replicate_succ, Array.replicate_zero, List.push_toArray, List.append_toArray, List.nil_append, List.cons_append]
  gi_wp2
  clear hcg
  gi_loopw [5] (fun v5 wr => ∃ c : Nat, v5 = .int .i64 c ∧ c ≤ k ∧ Aside0 (J c wr)) (fun v5 _ => k - (intOf v5).toNat)
  case atStart => exact ⟨0, rfl, by omega, H0⟩
  case round =>
    clear H0
    obtain ⟨c, rfl, hc, HJ⟩ := hrel
    by_cases hlt : c < k
    · have hy := HY.out c wr hlt HJ.out
      have hcc : c = 0 ∨ c = 1 ∨ c = 2 ∨ c = 3 := by have := HK.out; omega
      have hI : (c : Int) < (k : Int) := by omega
      have HLT := Aside0.mk hlt
      clear hlt
      rcases hcc with rfl | rfl | rfl | rfl
      · rw [encs_0] at hy
        obtain ⟨fn, tmps, assign, body, hyy, hRR⟩ := hy
        gi_wp2
        refine hRR.mono ?_
        rintro e W' (⟨rfl, hj⟩ | ⟨rfl, hj⟩)
        · have HJ2 := Aside0.mk hj
          clear hj hRR hyy
          gi_wp2
          go_roundw
          case rel => exact ⟨_, by go_num, by have := HLT.out; omega, HJ2⟩
          case measure => simp [intOf]; have := HLT.out; omega
        · have HJ2 := Aside0.mk hj
          clear hj hRR hyy
          gi_wp2
          (try simp only [Exit.inBlock, Exit.then])
          refine bodyPost_ret (results_none rfl _ _ _) rfl ?_
          exact ⟨⟨_, rfl⟩, .inr ⟨_, HLT.out, HJ2.out⟩⟩
      · rw [encs_1] at hy
        obtain ⟨fn, tmps, assign, body, hyy, hRR⟩ := hy
        gi_wp2
        refine hRR.mono ?_
        rintro e W' (⟨rfl, hj⟩ | ⟨rfl, hj⟩)
        · have HJ2 := Aside0.mk hj
          clear hj hRR hyy
          gi_wp2
          go_roundw
          case rel => exact ⟨_, by go_num, by have := HLT.out; omega, HJ2⟩
          case measure => simp [intOf]; have := HLT.out; omega
        · have HJ2 := Aside0.mk hj
          clear hj hRR hyy
          gi_wp2
          (try simp only [Exit.inBlock, Exit.then])
          refine bodyPost_ret (results_none rfl _ _ _) rfl ?_
          exact ⟨⟨_, rfl⟩, .inr ⟨_, HLT.out, HJ2.out⟩⟩
      · rw [encs_2] at hy
        obtain ⟨fn, tmps, assign, body, hyy, hRR⟩ := hy
        gi_wp2
        refine hRR.mono ?_
        rintro e W' (⟨rfl, hj⟩ | ⟨rfl, hj⟩)
        · have HJ2 := Aside0.mk hj
          clear hj hRR hyy
          gi_wp2
          go_roundw
          case rel => exact ⟨_, by go_num, by have := HLT.out; omega, HJ2⟩
          case measure => simp [intOf]; have := HLT.out; omega
        · have HJ2 := Aside0.mk hj
          clear hj hRR hyy
          gi_wp2
          (try simp only [Exit.inBlock, Exit.then])
          refine bodyPost_ret (results_none rfl _ _ _) rfl ?_
          exact ⟨⟨_, rfl⟩, .inr ⟨_, HLT.out, HJ2.out⟩⟩
      · rw [encs_3] at hy
        obtain ⟨fn, tmps, assign, body, hyy, hRR⟩ := hy
        gi_wp2
        refine hRR.mono ?_
        rintro e W' (⟨rfl, hj⟩ | ⟨rfl, hj⟩)
        · have HJ2 := Aside0.mk hj
          clear hj hRR hyy
          gi_wp2
          go_roundw
          case rel => exact ⟨_, by go_num, by have := HLT.out; omega, HJ2⟩
          case measure => simp [intOf]; have := HLT.out; omega
        · have HJ2 := Aside0.mk hj
          clear hj hRR hyy
          gi_wp2
          (try simp only [Exit.inBlock, Exit.then])
          refine bodyPost_ret (results_none rfl _ _ _) rfl ?_
          exact ⟨⟨_, rfl⟩, .inr ⟨_, HLT.out, HJ2.out⟩⟩
    · have hI : ¬ ((c : Int) < (k : Int)) := by omega
      have e : c = k := by omega
      have HJ2 := Aside0.mk (show J k wr by rw [← e]; exact HJ.out)
      clear hlt HJ e
      gi_wp2
      go_end0
      exact ⟨⟨_, rfl⟩, .inl HJ2.out⟩
end Go.Proofs.Ytagdbadljcongaa.X
end

section
/- thread.Item. -/
set_option linter.unusedVariables false
set_option linter.unusedSimpArgs false
namespace Go.Proofs.Ytagdbadljcongaa.X
open Go Go.RowKit Go.Proofs.YtagdbadljcongaaW.PrintWords Go.Proofs.YtagdbadljcongaaW.PrintLast Go.Proofs.YtagdbadljcongaaW.PrintMore
attribute [local go_sem] Oper.semAt_some
/-- Where the variables lie. -/
structure ItG where
  gk : Nat
  b : Nat
  gx : Nat
  gn : Nat
  go : Nat
  ga : Nat
  top : Nat
def ItG.Ok (E : ItG) (lo : Nat) : Prop := lo ≤ E.gk ∧ E.gk < E.b ∧ E.b < E.gx ∧ E.gx < E.gn ∧ E.gn < E.go ∧ E.go < E.ga ∧ E.ga < E.top
/-- What the variables hold. -/
structure ItAt (s : ByteArray) (E : ItG) (k : Int) (i : Int) (o : ByteArray) (W : World) : Prop where
  ck : W.heap[E.gk]? = some (.cells #[.int .i64 k] 3 (0, 0))
  cx : W.heap[E.gx]? = some (.cells #[.pointer (some ⟨E.b, 0, none⟩)] 70 (0, 0))
  cn : W.heap[E.gn]? = some (.cells (acells (cntF (bl s))) 84 (0, 0))
  co : W.heap[E.go]? = some (.cells #[.string o] 9 (0, 0))
  ca : W.heap[E.ga]? = some (.cells #[.int .i64 i] 3 (0, 0))
  wd : WordAt W E.b s
theorem ItAt.kept {s : ByteArray} {E : ItG} {k i : Int} {o : ByteArray} {W W' : World} (h : ItAt s E k i o W) (hk : ∀ g ob, W.heap[g]? = some ob → g < W.heap.size → W'.heap[g]? = some ob) : ItAt s E k i o W' := by
  obtain ⟨f, h1, h2⟩ := h.wd.ex
  exact ⟨hk _ _ h.ck (blk_lt h.ck), hk _ _ h.cx (blk_lt h.cx), hk _ _ h.cn (blk_lt h.cn), hk _ _ h.co (blk_lt h.co), hk _ _ h.ca (blk_lt h.ca), ⟨f, hk _ _ h1 (blk_lt h1), h2⟩⟩
theorem ItAt.below {s : ByteArray} {E : ItG} {k i : Int} {o : ByteArray} {W W' : World} (h : ItAt s E k i o W) (hb : Below W.heap.size W W') : ItAt s E k i o W' := h.kept fun g ob e _ => blk_below e hb
theorem ItAt.put {s : ByteArray} {E : ItG} {k i : Int} {o : ByteArray} {W : World} (h : ItAt s E k i o W) {l : Nat} {ob : Obj} (hl : W.heap[l]? = some ob) (hc : ob.isCells = false) (ob' : Obj) : ItAt s E k i o (W.putObj l ob') := by
  obtain ⟨f, h1, h2⟩ := h.wd.ex
  have hk : ∀ (g : Nat) (cs : Array Value) (t : TypeId), W.heap[g]? = some (.cells cs t (0, 0)) → (W.putObj l ob').heap[g]? = some (.cells cs t (0, 0)) := fun g cs t e => by
    rw [World.putObj_heap_other (fun e2 => by subst e2; rw [hl] at e; injection e with e; subst e; cases hc)]; exact e
  exact ⟨hk _ _ _ h.ck, hk _ _ _ h.cx, hk _ _ _ h.cn, hk _ _ _ h.co, hk _ _ _ h.ca, ⟨f, hk _ _ _ h1, h2⟩⟩
theorem ItAt.setO {s : ByteArray} {E : ItG} {lo : Nat} {k i : Int} {o : ByteArray} {W : World} (h : ItAt s E k i o W) (hE : E.Ok lo) (o' : ByteArray) : ItAt s E k i o' (W.setCell ⟨E.go, 0, none⟩ (.string o')) := by
  obtain ⟨f, h1, h2⟩ := h.wd.ex
  obtain ⟨e0, e1, e2, e3, e4, e5, e6⟩ := hE
  exact ⟨blk_far h.ck (by show E.gk ≠ E.go; omega) _, blk_far h.cx (by show E.gx ≠ E.go; omega) _, blk_far h.cn (by show E.gn ≠ E.go; omega) _, (blk_set h.co 0 _).trans rfl, blk_far h.ca (by show E.ga ≠ E.go; omega) _, ⟨f, blk_far h1 (by show E.b ≠ E.go; omega) _, h2⟩⟩
theorem ItAt.setA {s : ByteArray} {E : ItG} {lo : Nat} {k i : Int} {o : ByteArray} {W : World} (h : ItAt s E k i o W) (hE : E.Ok lo) (i' : Int) : ItAt s E k i' o (W.setCell ⟨E.ga, 0, none⟩ (.int .i64 i')) := by
  obtain ⟨f, h1, h2⟩ := h.wd.ex
  obtain ⟨e0, e1, e2, e3, e4, e5, e6⟩ := hE
  exact ⟨blk_far h.ck (by show E.gk ≠ E.ga; omega) _, blk_far h.cx (by show E.gx ≠ E.ga; omega) _, blk_far h.cn (by show E.gn ≠ E.ga; omega) _, blk_far h.co (by show E.go ≠ E.ga; omega) _, (blk_set h.ca 0 _).trans rfl, ⟨f, blk_far h1 (by show E.b ≠ E.ga; omega) _, h2⟩⟩
/-- The loop's state. -/
structure ItLoop (s : ByteArray) (E : ItG) (w : World) (R : List Nat) (k i : Nat) (o : ByteArray) (ds : List Deferred) (W : World) : Prop where
  at_ : ItAt s E k i o W
  bel : Below w.heap.size w W
  mks : Marks w.heap.size W ds
  top : E.top ≤ W.heap.size
  hi : i ≤ s.size
  hk : k < cs ((bl s).drop i)
  ho : o.size ≤ i
  eq : bl o ++ itemL ((bl s).drop i) k = R
/-- Where a range stands when c letters have been tried; what a pick leaves. -/
structure ItR (s : ByteArray) (E : ItG) (w : World) (T n i : Nat) (o : ByteArray) (ds : List Deferred) (c : Nat) (W : World) : Prop where
  ex : ∃ m : Nat, m + less ((bl s).drop i) c = n ∧ ItAt s E m i o W
  bel : Below w.heap.size w W
  mks : Marks w.heap.size W ds
  dl : ∀ D, ({ target := .collected D, args := #[] } : Deferred) ∈ ds → D < T
  top : E.top ≤ W.heap.size
structure ItX (s : ByteArray) (E : ItG) (w : World) (T n i : Nat) (o : ByteArray) (ds : List Deferred) (c : Nat) (W : World) : Prop where
  ex : ∃ m q : Nat, nx (bl s) i (97 + c) = q ∧ q < s.size ∧ m + less ((bl s).drop i) c = n ∧ m < cs ((bl s).drop (q + 1)) ∧ ItAt s E m ((q : Int) + 1) (o ++ ltr c) W
  bel : Below w.heap.size w W
  mks : Marks w.heap.size W ds
  dl : ∀ D, ({ target := .collected D, args := #[] } : Deferred) ∈ ds → D < T
  top : E.top ≤ W.heap.size
theorem below_put {w W : World} (h : Below w.heap.size w W) {l : Nat} (hl : w.heap.size ≤ l) (ob : Obj) : Below w.heap.size w (W.putObj l ob) := h.grown (grownBy_putObj' W l ob) h.size (fun k e => by cases e; exact hl)
theorem ItR.put {s : ByteArray} {E : ItG} {w W : World} {T n i : Nat} {o : ByteArray} {ds : List Deferred} {c : Nat} (h : ItR s E w T n i o ds c W) (hT : w.heap.size ≤ T) {l : Nat} {ob : Obj} (hl : T ≤ l) (ho : W.heap[l]? = some ob) (hc : ob.isCells = false) (ob' : Obj) : ItR s E w T n i o ds c (W.putObj l ob') := by
  obtain ⟨m, h1, h2⟩ := h.ex
  exact ⟨⟨m, h1, h2.put ho hc ob'⟩, below_put h.bel (by omega) _, h.mks.put (fun D hD e => by have := h.dl D hD; omega) _, h.dl, by rw [World.putObj_size]; exact h.top⟩
theorem ItX.put {s : ByteArray} {E : ItG} {w W : World} {T n i : Nat} {o : ByteArray} {ds : List Deferred} {c : Nat} (h : ItX s E w T n i o ds c W) (hT : w.heap.size ≤ T) {l : Nat} {ob : Obj} (hl : T ≤ l) (ho : W.heap[l]? = some ob) (hc : ob.isCells = false) (ob' : Obj) : ItX s E w T n i o ds c (W.putObj l ob') := by
  obtain ⟨m, q, h1, h2, h3, h4, h5⟩ := h.ex
  exact ⟨⟨m, q, h1, h2, h3, h4, h5.put ho hc ob'⟩, below_put h.bel (by omega) _, h.mks.put (fun D hD e => by have := h.dl D hD; omega) _, h.dl, by rw [World.putObj_size]; exact h.top⟩
theorem ItR.below {s : ByteArray} {E : ItG} {w W W' : World} {T n i : Nat} {o : ByteArray} {ds : List Deferred} {c : Nat} (h : ItR s E w T n i o ds c W) (hb : Below W.heap.size W W') : ItR s E w T n i o ds c W' := by
  obtain ⟨m, h1, h2⟩ := h.ex
  exact ⟨⟨m, h1, h2.below hb⟩, below_step h.bel hb, h.mks.below hb, h.dl, Nat.le_trans h.top hb.size⟩
theorem keepsOf {W W' : World} (h : Below W.heap.size W W') : KeepsOthers W W' := ⟨h.size, fun k o hk _ => (h.block k (Array.getElem?_eq_some_iff.1 hk).1).trans hk⟩
theorem bl_ltr (o : ByteArray) {c : Nat} (hc : c < 4) : bl (o ++ ltr c) = bl o ++ [97 + c] := by
  have hcc : c = 0 ∨ c = 1 ∨ c = 2 ∨ c = 3 := by omega
  unfold bl
  rw [ByteArray.data_append, Array.toList_append, List.map_append]
  rcases hcc with rfl | rfl | rfl | rfl <;> rfl
theorem size_ltr (o : ByteArray) (c : Nat) : (o ++ ltr c).size = o.size + 1 := by rw [ByteArray.size_append]; rfl
/-- A letter was picked: the loop goes on. -/
theorem ItX.next {s : ByteArray} {E : ItG} {w W : World} {T n i : Nat} {o : ByteArray} {ds : List Deferred} {c D : Nat} {R : List Nat} (h : ItX s E w T n i o ds c W) (hc : c < 4) (hi : i ≤ s.size) (hk : n + 1 < cs ((bl s).drop i)) (ho : o.size ≤ i) (heq : bl o ++ itemL ((bl s).drop i) (n + 1) = R)
    (hT : w.heap.size ≤ T) (hD : T ≤ D) (hDW : W.heap[D]? = some (.deferred (some []))) : ∃ m q : Nat, m < n + 1 ∧ ItLoop s E w R m (q + 1) (o ++ ltr c) ({ target := .collected D, args := #[] } :: ds) W := by
  obtain ⟨m, q, h1, h2, h3, h4, h5⟩ := h.ex
  have hq := nx_le (bl s) i (97 + c) (by rw [bl_length]; exact hi)
  rw [h1] at hq
  refine ⟨m, q, by omega, ⟨by simpa using h5, h.bel, ?_, h.top, by omega, h4, by rw [size_ltr]; omega, ?_⟩⟩
  · exact h.mks.cons (by omega) hDW (fun D' hD' e => by have := h.dl D' hD'; omega)
  · have ht : term ((bl s).drop i) (97 + c) = cs ((bl s).drop (q + 1)) := by rw [term_at _ _ _ (by rw [bl_length]; exact hi), h1, if_pos (by rw [bl_length]; exact h2)]
    rw [itemL_at (by rw [bl_length]; exact hi) h1 hc (by omega) (by rw [less_succ, ht]; omega) hk, show n - less ((bl s).drop i) c = m by omega] at heq
    rw [bl_ltr o hc, ← heq]
    simp
theorem after_in (lo m' : Nat) (w : World) (b : Nat) (s : ByteArray) (hw : WordAt w b s) (hs : s.size ≤ 60) (i c q : Nat) (r : Bool) (hi : i ≤ s.size) (hc : c < 4) (hq : nx (bl s) i (97 + c) = q) (hr : decide (q < s.size) = r) :
    CallsIn (Fence.wide.inRound lo) m' Try.prog 57 #[.pointer (some ⟨b, 0, none⟩), .int .i64 i, .int .i64 c] w fun e w' => e = .returned (.tuple #[.int .i64 (q + 1 : Int), .bool r]) ∧ Drawn0 w w' :=
  CallsIn.inRound lo (callsIn_wide.2 (after_c w b s hw hs i c q r hi hc hq hr))
end Go.Proofs.Ytagdbadljcongaa.X
end

section
/- thread.isOver: through strings.ContainsFunc, IndexFunc and indexFunc with its closure, at a word. -/
set_option linter.unusedVariables false
set_option linter.unusedSimpArgs false
namespace Go.Proofs.Ytagdbadljcongaa.X
open Go Go.RowKit Go.Proofs Go.Proofs.YtagdbadljcongaaW.PrintWords Go.Proofs.YtagdbadljcongaaW.PrintLast Go.Proofs.YtagdbadljcongaaW.PrintMore
/-- Whether a word has the first k letters only. -/
def ovr (l : List Nat) (k : Nat) : Bool := l.all fun b => decide (b < 97 + k)
set_option maxHeartbeats 2000000 in
set_option maxRecDepth 100000 in
theorem over_yes (g d k : Nat) (W : World) (hg : W.cell? ⟨g, 0, none⟩ = some (.int .i64 k)) (hd : d < 4) (hk : 1 ≤ k) (hk4 : k ≤ 4) (h : d < k) : Calls Try.prog 69 #[.int .i32 (97 + (d : Int)), .pointer (some ⟨g, 0, none⟩)] W fun e w' => e = .returned (.bool false) ∧ Drawn0 W w' := by
  have h1 : (0 : Int) ≤ (d : Int) := by omega
  have h2 : (d : Int) < 4 := by omega
  have h3 : (d : Int) ≤ (k : Int) - 1 := by omega
  have h4 : (k : Int) ≤ 4 := by omega
  have h5 : (97 : Int) + (d : Int) - 97 = (d : Int) := by omega
  clear hd hk hk4 h
  go_enter Try.func69, Try.ntmps69
  go_wp2_with (go_at_call 49; (with_reducible refine (within_y _ _ _ _ (by omega) (by omega)).mono ?_); rintro e w1 ⟨rfl, HD⟩; have HDD := Aside0.mk HD; clear HD)
  go_ret
  exact ⟨rfl, HDD.out⟩
set_option maxHeartbeats 2000000 in
set_option maxRecDepth 100000 in
theorem over_no (g d k : Nat) (W : World) (hg : W.cell? ⟨g, 0, none⟩ = some (.int .i64 k)) (hd : d < 4) (hk : 1 ≤ k) (hk4 : k ≤ 4) (h : ¬ d < k) : Calls Try.prog 69 #[.int .i32 (97 + (d : Int)), .pointer (some ⟨g, 0, none⟩)] W fun e w' => e = .returned (.bool true) ∧ Drawn0 W w' := by
  have h1 : (0 : Int) ≤ (d : Int) := by omega
  have h2 : (d : Int) < 4 := by omega
  have h3 : ¬ ((0 : Int) ≤ (d : Int) ∧ (d : Int) ≤ (k : Int) - 1) := by omega
  have h4 : (k : Int) ≤ 4 := by omega
  have h5 : (97 : Int) + (d : Int) - 97 = (d : Int) := by omega
  have H3 := Aside0.mk h3
  clear hd hk hk4 h h3
  go_enter Try.func69, Try.ntmps69
  go_wp2_with (go_at_call 49; (with_reducible refine (within_n _ _ _ _ H3.out).mono ?_); rintro e w1 ⟨rfl, HD⟩; have HDD := Aside0.mk HD; clear HD)
  go_ret
  exact ⟨rfl, HDD.out⟩
set_option maxHeartbeats 4000000 in
set_option maxRecDepth 1000000 in
theorem idxf (s : ByteArray) (g k : Nat) (w : World) (hs : isW (bl s) = true) (hg : w.cell? ⟨g, 0, none⟩ = some (.int .i64 k)) (hgl : g < w.heap.size) (hk : 1 ≤ k) (hk4 : k ≤ 4) :
    Calls Try.prog 92 #[.string s, .func (.func 69) #[] #[.pointer (some ⟨g, 0, none⟩)], .bool true] w fun e w' => ∃ r : Int, e = .returned (.int .i64 r) ∧ Aside0 (-1 ≤ r ∧ r ≤ 60 ∧ (0 ≤ r ↔ ovr (bl s) k = false)) ∧ Below w.heap.size w w' := by
  have HS := Aside0.mk hs
  have HG := Aside0.mk hg
  have HGL := Aside0.mk hgl
  have HK := Aside0.mk hk
  have HK4 := Aside0.mk hk4
  have hs60 : s.size ≤ 60 := by rw [← bl_length]; exact ((isW_iff _).1 hs).1
  have HS60 := Aside0.mk hs60
  clear hs hg hgl hk hk4 hs60
  go_enter Try.func92, Try.ntmps92
  go_wp2
  go_loopg [] s.size (fun gf wx => ∃ pos : Nat, Aside0 (wx.heap[w.heap.size]? = some (.stringIter s pos)) ∧ Aside0 (Below w.heap.size w wx) ∧ Aside0 (∀ j, j < pos → ∀ h : j < (bl s).length, (bl s)[j] < 97 + k) ∧ Aside0 (pos + gf = s.size))
  case atStart => exact ⟨0, ⟨World.iter_heap w s 0⟩, ⟨(Below.refl _ w).alloc (Nat.le_refl _) _⟩, ⟨by omega⟩, ⟨by omega⟩⟩
  case round =>
    obtain ⟨pos, HIT, HBW, HAL, HFU⟩ := hrel
    by_cases hps : pos < s.size
    · obtain ⟨g', rfl⟩ : ∃ g', gk = g' + 1 := ⟨gk - 1, by have := HFU.out; omega⟩
      obtain ⟨d, hd, hd4⟩ : ∃ c, (bl s)[pos]'(by rw [bl_length]; exact hps) = 97 + c ∧ c < 4 := by
        have := ((isW_iff (bl s)).1 HS.out).2 _ (List.getElem_mem (by rw [bl_length]; exact hps))
        exact ⟨(bl s)[pos]'(by rw [bl_length]; exact hps) - 97, by omega, by omega⟩
      have hdec : Utf8.decode s pos = (97 + d, 1) := by
        have h2 : (s[pos]'hps).toNat = 97 + d := by rw [← bl_get s pos hps]; exact hd
        rw [decode_ascii s pos hps (by omega), h2]
      have hnx : ∀ ty, (Instr.next (.pointer (some ⟨w.heap.size, 0, none⟩)) true ty).run Try.prog wr = _ := fun ty => Lib.run_next_any_at wr w.heap.size s pos ty HIT.out hps
      rw [hdec] at hnx
      have hit2 := Lib.iterAt_heap wr w.heap.size s pos (pos + 1) HIT.out
      have hbw2 := Lib.below_iterAt HBW.out (k := w.heap.size) (Nat.le_refl _) s (pos + 1)
      obtain ⟨W, hWd⟩ : ∃ W, wr.iterAt w.heap.size s (pos + 1) = W := ⟨_, rfl⟩
      rw [hWd] at hnx hit2 hbw2
      have e97 : ((97 + d : Nat) : Int) = 97 + (d : Int) := by simp
      simp only [e97] at hnx
      have HIT2 := Aside0.mk hit2
      have HBW2 := Aside0.mk hbw2
      have HPS := Aside0.mk hps
      have HD := Aside0.mk (show ∀ h : pos < (bl s).length, (bl s)[pos] = 97 + d from fun _ => hd)
      have HD4 := Aside0.mk hd4
      have hcg : W.cell? ⟨g, 0, none⟩ = some (.int .i64 k) := (hbw2.cell (p := ⟨g, 0, none⟩) HGL.out).trans HG.out
      have HCG := Aside0.mk hcg
      clear hdec hit2 hbw2 hWd hps hd hd4 e97 hcg
      by_cases hdk : d < k
      · have HDK := Aside0.mk hdk
        clear hdk
        go_wp2_with (go_at_call 69; (with_reducible refine (over_yes g d k W HCG.out HD4.out HK.out HK4.out HDK.out).mono ?_); rintro e W' ⟨rfl, HDR⟩; have HB3 := Aside0.mk HDR.below; clear HDR)
        go_roundg g'
        case measure => omega
        case rel => exact ⟨pos + 1, ⟨blk_below HIT2.out HB3.out⟩, ⟨below_step HBW2.out HB3.out⟩, ⟨fun j hj h => by
          by_cases e : j = pos
          · subst e; rw [HD.out h]; have := HDK.out; omega
          · exact HAL.out j (by omega) h⟩, ⟨by have := HFU.out; omega⟩⟩
      · have HDK := Aside0.mk hdk
        clear hdk
        go_wp2_with (go_at_call 69; (with_reducible refine (over_no g d k W HCG.out HD4.out HK.out HK4.out HDK.out).mono ?_); rintro e W' ⟨rfl, HDR⟩; have HB3 := Aside0.mk HDR.below; clear HDR)
        go_ret
        refine ⟨_, rfl, ⟨by have := HPS.out; have := HS60.out; omega, by have := HPS.out; have := HS60.out; omega, ?_⟩, below_step HBW2.out HB3.out⟩
        refine iff_of_true (by omega) ?_
        rw [Bool.eq_false_iff]
        intro h
        have := List.all_eq_true.1 h _ (List.getElem_mem (show pos < (bl s).length by rw [bl_length]; exact HPS.out))
        rw [HD.out (by rw [bl_length]; exact HPS.out)] at this
        have h2 := HDK.out
        simp at this; omega
    · have hnx : ∀ ty, (Instr.next (.pointer (some ⟨w.heap.size, 0, none⟩)) true ty).run Try.prog wr = _ := fun ty => Lib.run_next_end_at wr w.heap.size s pos ty HIT.out hps
      have HPS := Aside0.mk hps
      clear hps
      go_wp2
      go_ret
      refine ⟨_, rfl, ⟨by omega, by omega, iff_of_false (by omega) ?_⟩, HBW.out⟩
      rw [Bool.not_eq_false]
      refine List.all_eq_true.2 fun b hb => ?_
      obtain ⟨j, hj, rfl⟩ := List.getElem_of_mem hb
      exact decide_eq_true (HAL.out j (by have h1 := HPS.out; rw [bl_length] at hj; omega) hj)
set_option maxHeartbeats 2000000 in
set_option maxRecDepth 100000 in
theorem idxf2 (s : ByteArray) (g k : Nat) (w : World) (hs : isW (bl s) = true) (hg : w.cell? ⟨g, 0, none⟩ = some (.int .i64 k)) (hgl : g < w.heap.size) (hk : 1 ≤ k) (hk4 : k ≤ 4) :
    Calls Try.prog 79 #[.string s, .func (.func 69) #[] #[.pointer (some ⟨g, 0, none⟩)]] w fun e w' => ∃ r : Int, e = .returned (.int .i64 r) ∧ Aside0 (-1 ≤ r ∧ r ≤ 60 ∧ (0 ≤ r ↔ ovr (bl s) k = false)) ∧ Below w.heap.size w w' := by
  have H := Aside0.mk (idxf s g k w hs hg hgl hk hk4)
  clear hs hg hgl hk hk4
  go_enter Try.func79, Try.ntmps79
  go_wp2_with (go_at_call 92; (with_reducible refine H.out.mono ?_); rintro e w1 ⟨r, rfl, HR, hb⟩; have HB := Aside0.mk hb; clear hb)
  go_ret
  exact ⟨r, rfl, HR, HB.out⟩
set_option maxHeartbeats 2000000 in
set_option maxRecDepth 100000 in
theorem contf (s : ByteArray) (g k : Nat) (w : World) (hs : isW (bl s) = true) (hg : w.cell? ⟨g, 0, none⟩ = some (.int .i64 k)) (hgl : g < w.heap.size) (hk : 1 ≤ k) (hk4 : k ≤ 4) (r : Bool) (hr : ovr (bl s) k = r) :
    Calls Try.prog 68 #[.string s, .func (.func 69) #[] #[.pointer (some ⟨g, 0, none⟩)]] w fun e w' => e = .returned (.bool (!r)) ∧ Below w.heap.size w w' := by
  have H := Aside0.mk (idxf2 s g k w hs hg hgl hk hk4)
  have HR := Aside0.mk hr
  clear hs hg hgl hk hk4 hr
  cases r with
  | true =>
    go_enter Try.func68, Try.ntmps68
    go_wp2_with (go_at_call 79; (with_reducible refine H.out.mono ?_); rintro e w1 ⟨r, rfl, HR2, hb⟩; have HB := Aside0.mk hb; have hr0 : decide (0 ≤ r) = false := decide_eq_false (fun h => by have := HR2.out.2.2.1 h; rw [HR.out] at this; cases this); clear hb)
    go_ret
    exact ⟨rfl, HB.out⟩
  | false =>
    go_enter Try.func68, Try.ntmps68
    go_wp2_with (go_at_call 79; (with_reducible refine H.out.mono ?_); rintro e w1 ⟨r, rfl, HR2, hb⟩; have HB := Aside0.mk hb; have hr0 : decide (0 ≤ r) = true := decide_eq_true (HR2.out.2.2.2 HR.out); clear hb)
    go_ret
    exact ⟨rfl, HB.out⟩
set_option maxHeartbeats 2000000 in
set_option maxRecDepth 100000 in
theorem over_any (s : ByteArray) (k : Nat) (w : World) (hs : isW (bl s) = true) (hk : 1 ≤ k) (hk4 : k ≤ 4) (r : Bool) (hr : ovr (bl s) k = r) :
    Calls Try.prog 50 #[.string s, .int .i64 k] w fun e w' => e = .returned (.bool r) ∧ Below w.heap.size w w' := by
  have H := Aside0.mk (contf s w.heap.size k (w.alloc (.cells #[.int .i64 (k : Int)] 3)) hs ((blk_cell (blk_new w _) 0).trans rfl) (by rw [World.size_alloc]; omega) hk hk4 r hr)
  clear hs hk hk4 hr
  go_enter Try.func50, Try.ntmps50
  go_wp2_with (go_at_call 68; (with_reducible refine H.out.mono ?_); rintro e w1 ⟨rfl, hb⟩; have HB := Aside0.mk (below_step (below_alloc (Below.refl _ _) _) hb); clear hb)
  go_ret
  exact ⟨by simp, HB.out⟩
end Go.Proofs.Ytagdbadljcongaa.X
end

section
/- tickinglaw03.tame. -/
set_option linter.unusedVariables false
set_option linter.unusedSimpArgs false
namespace Go.Proofs.Ytagdbadljcongaa.X
open Go Go.RowKit Go.Proofs Go.Proofs.YtagdbadljcongaaW.PrintWords Go.Proofs.YtagdbadljcongaaW.PrintLast Go.Proofs.YtagdbadljcongaaW.PrintMore
/-- A word of the first k letters of at most m letters. -/
structure Tame (s : ByteArray) (m k : Nat) : Prop where
  size : s.size ≤ m
  let_ : ∀ b ∈ bl s, 97 ≤ b ∧ b < 97 + k
theorem Tame.isW {s : ByteArray} {m k : Nat} (h : Tame s m k) (hm : m ≤ 60) (hk : k ≤ 4) : isW (bl s) = true :=
  (isW_iff _).2 ⟨by rw [bl_length]; have := h.size; omega, fun b hb => by have := h.let_ b hb; omega⟩
theorem Tame.ovr {s : ByteArray} {m k : Nat} (h : Tame s m k) : ovr (bl s) k = true := List.all_eq_true.2 fun b hb => decide_eq_true (h.let_ b hb).2
theorem bl_strOf (xs : List Int) (h : ∀ x ∈ xs, 0 ≤ x ∧ x < 256) : bl (strOfNums xs) = xs.map Int.toNat := by
  unfold bl
  rw [strOfNums_data, List.map_map]
  refine List.map_congr_left fun x hx => ?_
  have := h x hx
  show (UInt8.ofNat x.toNat).toNat = x.toNat
  rw [UInt8.toNat_ofNat']
  omega
theorem info5t : (Try.prog.info? 5).map (fun i => (i.zero, i.size, i.bytes)) = some (some (.int .u8 0), 1, 1) := by kernel_rfl
theorem app_byte {w W : World} {base : Nat} {ok : Nat → Prop} {A : Option Addr} {c : Nat} {xs : List Int} {x : Int} (hr : Kd.R (Kd.int .u8) 5 W base ok (.slice A xs.length c) xs) (hB : Below base w W) (hbase : base ≤ W.heap.size) (hfresh : ∀ k, W.heap.size ≤ k → ok k) (hl : xs.length ≤ 1000000) (i j : Nat) (ops : Array Oper) (rest : List Oper) (o : Oper) (a : Act) (Q : Exit → Act → World → Prop)
    (hgd : o.guard = none) (ho : o.op = .call { callee := .builtin .append, args := #[.tmp i, .tmp j], argTypes := #[36, 36] }) (hs : a.eval (.tmp i) = .slice A xs.length c) (hx : a.eval (.tmp j) = .slice (some ⟨W.heap.size, 0, none⟩) 1 1)
    (h : ∀ A' c' w', Kd.R (Kd.int .u8) 5 w' base ok (.slice A' (xs.length + 1) c') (xs ++ [x]) → Below base w w' → wpList Try.prog ops Q rest (a.put o.dst (.slice A' (xs.length + 1) c')) w') :
    wpList Try.prog ops Q (o :: rest) a (W.alloc (.cells #[.int .u8 x] 5)) := by
  refine Kd.R_append (Kd.int .u8) (w0 := w) base hgd (.tmp i) (.tmp j) 36 5 (.int .u8 0) 1 ho Try.underlying36 info5t rfl (by decide) (by omega) (.slice A xs.length c) xs x [.int .u8 x] ok (fun _ => False) hs hx rfl (fun _ h => h.elim) hfresh hr hB hbase (by omega) ?_
  intro v1 w1 ho hb hg hat
  obtain ⟨A', c', rfl⟩ := Kd.R_slice ho
  have e : (xs ++ [x]).length = xs.length + 1 := by simp
  rw [e] at ho
  rw [e]
  exact h A' c' w1 ho hb
set_option maxHeartbeats 8000000 in
set_option maxRecDepth 100000 in
theorem tame_any (a : ByteArray) (m k : Nat) (w : World) (hm : m ≤ 60) (hk : 1 ≤ k) (hk4 : k ≤ 4) : Calls Try.prog 26 #[.string a, .int .i64 (m : Int), .int .i64 (k : Int)] w fun e w' => ∃ s, e = .returned (.string s) ∧ Aside0 (Tame s m k) ∧ Below w.heap.size w w' := by
  have HM := Aside0.mk hm
  have HK := Aside0.mk hk
  have HK4 := Aside0.mk hk4
  clear hm hk hk4
  go_enter Try.func26, Try.ntmps26
  go_wp2
  go_loopw [7, 8] (fun v7 v8 wr => ∃ (i : Nat) (A : Option Addr) (c : Nat) (xs : List Int), v8 = .int .i64 i ∧ v7 = .slice A xs.length c ∧ i ≤ m ∧ Aside0 (xs.length = i) ∧ Aside0 (∀ x ∈ xs, (97 : Int) ≤ x ∧ x < 97 + k) ∧ Aside0 (Kd.R (Kd.int .u8) 5 wr w.heap.size (fun _ => True) (.slice A xs.length c) xs) ∧ Aside0 (Below w.heap.size w wr)) (fun _ v8 _ => m - (intOf v8).toNat)
  case atStart => exact ⟨0, none, 0, [], rfl, rfl, by omega, ⟨rfl⟩, ⟨by simp⟩, ⟨Kd.R_nil _ _ _ _ _⟩, ⟨Below.refl _ _⟩⟩
  case round =>
    obtain ⟨i, A, c, xs, rfl, rfl, hi, HLN, HX, HR, HB⟩ := hrel
    have HT := Aside0.mk (show Tame (strOfNums xs) m k from ⟨by rw [strOfNums_size, HLN.out]; exact hi, fun b hb => by
      rw [bl_strOf xs (fun x hx2 => by have := HX.out x hx2; have := HK4.out; omega)] at hb
      obtain ⟨x, h1, rfl⟩ := List.mem_map.1 hb
      have := HX.out x h1
      omega⟩)
    by_cases h1 : i < a.size
    · have h1I : (i : Int) < (a.size : Int) := by omega
      by_cases h2 : i < m
      · have h2I : (i : Int) < (m : Int) := by omega
        obtain ⟨b, hb⟩ : ∃ b, (a[i]'h1).toNat = b := ⟨_, rfl⟩
        have hb255 : b < 256 := by rw [← hb]; exact (a[i]'h1).toNat_lt
        have hxv : ∀ h : i < a.size, ((a[i]'h).toNat : Int) = (b : Int) := fun _ => by rw [hb]
        have hk0 : ¬ ((k : Int) = 0) := by have := HK.out; omega
        obtain ⟨e, he⟩ : ∃ e : Nat, Int.tmod (b : Int) (k : Int) = (e : Int) := Int.eq_ofNat_of_zero_le (Int.tmod_nonneg _ (by omega))
        have hek : (e : Int) < (k : Int) := by rw [← he]; exact Int.tmod_lt_of_pos _ (by have := HK.out; omega)
        have he4 : (e : Int) < 4 := by have := HK4.out; omega
        have he0 : (0 : Int) ≤ (e : Int) := by omega
        have hbI : (b : Int) < 256 := by omega
        have hi60 : (i : Int) < 60 := by have := HM.out; omega
        have c1 : (97 + (e : Int)) % 256 = 97 + (e : Int) := by omega
        have KEY := Aside0.mk (app_byte (x := 97 + (e : Int)) HR.out HB.out HB.out.size (fun _ _ => trivial) (by rw [HLN.out]; have := HM.out; omega) 20 29)
        have H2 := Aside0.mk h2
        have HEK := Aside0.mk hek
        clear h1 h2 hb hb255 hek
        go_wp2_with (at_builtin; refine KEY.out _ _ _ _ _ rfl rfl rfl rfl ?_; intro A2 c2 w3 hr3 hb3; have HR3 := Aside0.mk hr3; have HB3 := Aside0.mk hb3; clear hr3 hb3)
        go_roundw
        case rel => exact ⟨i + 1, A2, c2, xs ++ [97 + (e : Int)], by go_num, by simp, by have := H2.out; omega, ⟨by simp [HLN.out]⟩, ⟨fun x hx => by
          rcases List.mem_append.1 hx with h | h
          · exact HX.out x h
          · rw [List.mem_singleton] at h
            have := HEK.out
            omega⟩, ⟨by rw [List.length_append]; exact HR3.out⟩, HB3⟩
        case measure => simp [intOf]; have := H2.out; omega
      · have h2I : ¬ ((i : Int) < (m : Int)) := by omega
        have hcv := own_string (P := Try.prog) Try.underlying36 Try.underlying5 Try.underlying9 (Kd.own_of_R HR.out)
        clear h1 h2
        go_wp2
        go_ret
        exact ⟨_, rfl, HT, HB.out⟩
    · have h1I : ¬ ((i : Int) < (a.size : Int)) := by omega
      have hcv := own_string (P := Try.prog) Try.underlying36 Try.underlying5 Try.underlying9 (Kd.own_of_R HR.out)
      clear h1
      go_wp2
      go_ret
      exact ⟨_, rfl, HT, HB.out⟩
end Go.Proofs.Ytagdbadljcongaa.X
end

section
/- Tame words, numbers within a range; the items' ranks and order. -/
set_option linter.unusedVariables false
set_option linter.unusedSimpArgs false
namespace Go.Proofs.Ytagdbadljcongaa.X
open Go Go.RowKit Go.Proofs.YtagdbadljcongaaW.PrintWords Go.Proofs.YtagdbadljcongaaW.PrintLast Go.Proofs.YtagdbadljcongaaW.PrintMore
/-- The order of words as strings. -/
def lessN : List Nat → List Nat → Bool
  | _, [] => false
  | [], _ :: _ => true
  | a :: x, b :: y => decide (a < b) || (a == b && lessN x y)
theorem bytesLess_bl (a b : ByteArray) : Op.bytesLess a.toList b.toList = lessN (bl a) (bl b) := by
  rw [ByteArray.toList_eq, ByteArray.toList_eq]
  unfold bl
  generalize a.data.toList = x
  generalize b.data.toList = y
  induction x generalizing y with
  | nil => cases y <;> rfl
  | cons c x ih =>
    cases y with
    | nil => rfl
    | cons d y =>
      simp only [Op.bytesLess, List.map_cons, lessN, ih]
      congr 1
      congr 1
      rw [Bool.eq_iff_iff]
      simp [UInt8.toNat_inj]
end Go.Proofs.Ytagdbadljcongaa.X
end

section
/- The search through pairs of places, as the program does it. -/
set_option linter.unusedVariables false
set_option linter.unusedSimpArgs false
namespace Go.Proofs.Ytagdbadljcongaa.X
open Go.RowKit Go.Proofs.YtagdbadljcongaaW.PrintWords
/-- An entry of the queue: two places, and the word that leads there. -/
structure Ent where
  i : Nat
  j : Nat
  wd : List Nat
deriving DecidableEq
def knownB (Q : List Ent) (i j : Nat) : Bool := Q.any fun e => e.i == i && e.j == j
theorem knownB_iff (Q : List Ent) (i j : Nat) : knownB Q i j = true ↔ ∃ e ∈ Q, e.i = i ∧ e.j = j := by simp [knownB]
/-- One entry's letters: the word that tells the two apart, or the queue grown. -/
def bfsR (u w : List Nat) (p : Ent) : List Nat → List Ent → Option (List Nat) × List Ent
  | [], Q => (none, Q)
  | c :: cs, Q =>
    if decide (nx u p.i (97 + c) < u.length) != decide (nx w p.j (97 + c) < w.length) then (some (p.wd ++ [97 + c]), Q)
    else if nx u p.i (97 + c) < u.length ∧ knownB Q (nx u p.i (97 + c) + 1) (nx w p.j (97 + c) + 1) = false then bfsR u w p cs (Q ++ [⟨nx u p.i (97 + c) + 1, nx w p.j (97 + c) + 1, p.wd ++ [97 + c]⟩])
    else bfsR u w p cs Q
def bfs (u w : List Nat) : Nat → Nat → List Ent → Option (List Nat)
  | 0, _, _ => none
  | f + 1, q, Q => match Q[q]? with
    | none => none
    | some p => match bfsR u w p [0, 1, 2, 3] Q with
      | (some r, _) => some r
      | (none, Q') => bfs u w f (q + 1) Q'
def root : Ent := ⟨0, 0, []⟩
/-- The first word that is a subsequence of one of two words. -/
def diffW (u w : List Nat) : Option (List Nat) := bfs u w 3845 0 [root]
/-- What holds of the queue. -/
structure QOk (u w : List Nat) (Q : List Ent) : Prop where
  hd : ∃ t, Q = root :: t ∧ ∀ e ∈ t, 1 ≤ e.i ∧ e.i ≤ u.length ∧ 1 ≤ e.j ∧ e.j ≤ w.length
  nd : Q.Pairwise (fun a b => ¬ (a.i = b.i ∧ a.j = b.j))
  par : ∀ m (h : m < Q.length), 0 < m → ∃ m' c, ∃ h' : m' < m, c < 4 ∧ (Q[m]).wd = (Q[m']'(by omega)).wd ++ [97 + c]
theorem QOk.start (u w : List Nat) : QOk u w [root] := ⟨⟨[], rfl, by simp⟩, by simp, fun m h h0 => by simp at h; omega⟩
theorem QOk.le {u w : List Nat} {Q : List Ent} (h : QOk u w Q) {e : Ent} (he : e ∈ Q) : e.i ≤ u.length ∧ e.j ≤ w.length := by
  obtain ⟨t, rfl, ht⟩ := h.hd
  rcases List.mem_cons.1 he with rfl | he
  · exact ⟨Nat.zero_le _, Nat.zero_le _⟩
  · have := ht e he; omega
theorem QOk.push {u w : List Nat} {Q : List Ent} (h : QOk u w Q) {m c : Nat} (hm : m < Q.length) (hc : c < 4) {i j : Nat} (hi : 1 ≤ i ∧ i ≤ u.length) (hj : 1 ≤ j ∧ j ≤ w.length) (hk : knownB Q i j = false) : QOk u w (Q ++ [⟨i, j, (Q[m]).wd ++ [97 + c]⟩]) := by
  refine ⟨?_, ?_, ?_⟩
  · obtain ⟨t, rfl, ht⟩ := h.hd
    refine ⟨t ++ [_], rfl, fun e he => ?_⟩
    rcases List.mem_append.1 he with he | he
    · exact ht e he
    · rw [List.mem_singleton] at he; subst he; exact ⟨hi.1, hi.2, hj.1, hj.2⟩
  · rw [List.pairwise_append]
    refine ⟨h.nd, by simp, fun a ha b hb e => ?_⟩
    rw [List.mem_singleton] at hb; subst hb
    have : knownB Q i j = true := (knownB_iff Q i j).2 ⟨a, ha, e.1, e.2⟩
    rw [hk] at this; cases this
  · intro m2 h2 h0
    by_cases e : m2 < Q.length
    · obtain ⟨m', c', h', a, b⟩ := h.par m2 e h0
      exact ⟨m', c', h', a, by rw [List.getElem_append_left e, List.getElem_append_left (by omega)]; exact b⟩
    · have e2 : m2 = Q.length := by simp at h2; omega
      subst e2
      exact ⟨m, c, hm, hc, by rw [List.getElem_append_right (Nat.le_refl _), List.getElem_append_left hm]; simp⟩
theorem nodup_le {α : Type} [DecidableEq α] : ∀ (l L : List α), l.Pairwise (fun a b => a ≠ b) → (∀ x ∈ l, x ∈ L) → l.length ≤ L.length
  | [], _, _, _ => Nat.zero_le _
  | x :: r, L, h, hs => by
    obtain ⟨h1, h2⟩ := List.pairwise_cons.1 h
    have hx := hs x (by simp)
    have := nodup_le r (L.erase x) h2 (fun y hy => (List.mem_erase_of_ne (fun e => h1 y hy e.symm)).2 (hs y (by simp [hy])))
    rw [List.length_erase_of_mem hx] at this
    have hp := List.length_pos_of_mem hx
    simp; omega
theorem QOk.size {u w : List Nat} {Q : List Ent} (h : QOk u w Q) (hu : u.length ≤ 60) (hw : w.length ≤ 60) : Q.length ≤ 3844 := by
  have h1 := nodup_le (Q.map fun e => e.i * 62 + e.j) (List.range 3844) (by
    rw [List.pairwise_map]
    refine h.nd.imp_of_mem fun {a b} ha hb hab e => hab ?_
    have := h.le ha; have := h.le hb
    omega) (fun x hx => by
    obtain ⟨e, he, rfl⟩ := List.mem_map.1 hx
    have := h.le he
    exact List.mem_range.2 (by omega))
  simpa using h1
end Go.Proofs.Ytagdbadljcongaa.X
end

section
/- The subsequences of a word, and how many there are. -/
set_option linter.unusedVariables false
set_option linter.unusedSimpArgs false
namespace Go.Proofs.Ytagdbadljcongaa.X
open Go Go.RowKit Go.Proofs.YtagdbadljcongaaW.PrintWords Go.Proofs.YtagdbadljcongaaW.PrintLast Go.Proofs.YtagdbadljcongaaW.PrintMore
theorem sub_nxl (c : Nat) (u : List Nat) : ∀ m : List Nat, (c :: u).Sublist m ↔ nxl m c < m.length ∧ u.Sublist (m.drop (nxl m c + 1))
  | [] => by simp [nxl]
  | b :: m => by
    by_cases e : b = c
    · subst e
      simp [nxl]
    · have h : nxl (b :: m) c = nxl m c + 1 := by rw [nxl_cons, if_neg e]
      rw [h, List.sublist_cons_iff, sub_nxl c u m]
      simp only [List.length_cons, List.drop_succ_cons]
      constructor
      · rintro (h1 | ⟨r, h1, _⟩)
        · exact ⟨by omega, h1.2⟩
        · injection h1 with h1
          exact absurd h1.symm e
      · exact fun h1 => .inl ⟨by omega, h1.2⟩
theorem wth_sub (l : List Nat) : ∀ (u : List Nat) (i : Nat), i ≤ l.length → ((wth l i u).isSome = true ↔ u.Sublist (l.drop i))
  | [], i, hi => by simp [wth]
  | c :: u, i, hi => by
    rw [sub_nxl, List.length_drop, List.drop_drop]
    have hn := nxl_le (l.drop i) c
    rw [List.length_drop] at hn
    unfold wth nx
    by_cases h : i + nxl (l.drop i) c < l.length
    · rw [if_pos h, Option.isSome_map, wth_sub l u _ (by omega)]
      rw [show i + nxl (l.drop i) c + 1 = i + (nxl (l.drop i) c + 1) by omega]
      exact ⟨fun h2 => ⟨by omega, h2⟩, fun h2 => h2.2⟩
    · rw [if_neg h]
      exact ⟨fun h2 => (by cases h2), fun h2 => (by omega)⟩
end Go.Proofs.Ytagdbadljcongaa.X
end

section
/- Arches, and the first word that is no subsequence. -/
set_option linter.unusedVariables false
set_option linter.unusedSimpArgs false
namespace Go.Proofs.Ytagdbadljcongaa.X
open Go.RowKit Go.Proofs.YtagdbadljcongaaW.PrintWords
/-- The greatest of f 0, .., f k. -/
def maxF (f : Nat → Nat) : Nat → Nat
  | 0 => f 0
  | k + 1 => max (maxF f k) (f (k + 1))
theorem maxF_ge (f : Nat → Nat) : ∀ (k j : Nat), j ≤ k → f j ≤ maxF f k
  | 0, j, h => by obtain rfl : j = 0 := by omega
                  exact Nat.le_refl _
  | k + 1, j, h => by
    show f j ≤ max (maxF f k) (f (k + 1))
    by_cases e : j = k + 1
    · subst e; omega
    · have := maxF_ge f k j (by omega); omega
theorem maxF_le (f : Nat → Nat) (m : Nat) : ∀ k : Nat, (∀ j, j ≤ k → f j ≤ m) → maxF f k ≤ m
  | 0, h => h 0 (Nat.le_refl _)
  | k + 1, h => by
    show max (maxF f k) (f (k + 1)) ≤ m
    have h1 := maxF_le f m k (fun j hj => h j (by omega))
    have h2 := h (k + 1) (Nat.le_refl _)
    omega
theorem maxF_mem (f : Nat → Nat) : ∀ k : Nat, ∃ j, j ≤ k ∧ maxF f k = f j
  | 0 => ⟨0, Nat.le_refl _, rfl⟩
  | k + 1 => by
    show ∃ j, j ≤ k + 1 ∧ max (maxF f k) (f (k + 1)) = f j
    obtain ⟨j, h1, h2⟩ := maxF_mem f k
    by_cases h : maxF f k ≤ f (k + 1)
    · exact ⟨k + 1, Nat.le_refl _, by omega⟩
    · exact ⟨j, by omega, by omega⟩
/-- Where the arch that begins at place i ends: the length, if there is none. -/
def amx (l : List Nat) (k i : Nat) : Nat := maxF (fun c => nx l i (97 + c)) (k - 1)
theorem amx_le {l : List Nat} {k i : Nat} (h : i ≤ l.length) : i ≤ amx l k i ∧ amx l k i ≤ l.length :=
  ⟨Nat.le_trans (nx_le l i (97 + 0) h).1 (maxF_ge (fun c => nx l i (97 + c)) (k - 1) 0 (Nat.zero_le _)), maxF_le _ _ _ (fun j _ => (nx_le l i (97 + j) h).2)⟩
/-- The ends of the arches from place i on. -/
def archF (l : List Nat) (k : Nat) : Nat → Nat → List Nat
  | 0, _ => []
  | f + 1, i => if amx l k i < l.length then amx l k i :: archF l k f (amx l k i + 1) else []
def arch (l : List Nat) (k i : Nat) : List Nat := archF l k (l.length + 1 - i) i
theorem archF_enough (l : List Nat) (k : Nat) : ∀ (f i : Nat), i ≤ l.length → l.length + 1 - i ≤ f → archF l k f i = archF l k (l.length + 1 - i) i
  | 0, i, h, hf => by omega
  | f + 1, i, h, hf => by
    have h1 := amx_le (k := k) h
    obtain ⟨g, hg⟩ : ∃ g, l.length + 1 - i = g + 1 := ⟨l.length - i, by omega⟩
    rw [hg]
    unfold archF
    split
    · rw [archF_enough l k f _ (by omega) (by omega), archF_enough l k g _ (by omega) (by omega)]
    · rfl
theorem arch_eq {l : List Nat} {k i : Nat} (h : i ≤ l.length) : arch l k i = if amx l k i < l.length then amx l k i :: arch l k (amx l k i + 1) else [] := by
  have h1 := amx_le (k := k) h
  unfold arch
  obtain ⟨g, hg⟩ : ∃ g, l.length + 1 - i = g + 1 := ⟨l.length - i, by omega⟩
  rw [hg]
  show (if amx l k i < l.length then _ else _) = _
  split
  · rw [archF_enough l k g _ (by omega) (by omega)]
  · rfl
end Go.Proofs.Ytagdbadljcongaa.X
end
