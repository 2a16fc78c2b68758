/- Texts behind ThreadOwn, part 25: contracts of the program's functions and the plain words for them. -/
import Derived.Test.YtagdbadljcongaaTpae
import Derived.Test.YtagdbadljcongaaTpas
import Derived.Test.YtagdbadljcongaaTpat
import Derived.Test.YtagdbadljcongaaTpau
import Derived.Test.YtagdbadljcongaaTpaw
import Derived.Test.YtagdbadljcongaaTpax
section
/- slices.insertionSortCmpFunc with thread.byLength, pdqsort and SortFunc at few strings. -/
set_option linter.unusedVariables false
set_option linter.unusedSimpArgs false
namespace Go.Proofs.Ytagdbadljcongaa.X
open Go Go.RowKit Go.Proofs Go.Proofs.YtagdbadljcongaaW.PrintWords Go.Proofs.YtagdbadljcongaaW.PrintLast Go.Proofs.YtagdbadljcongaaW.PrintMore
section
variable {P : Program} {ops : Array Oper} {Q : Exit → Act → World → Prop}
/-- A call of a function that a temporary holds. -/
theorem goesT_ {oi : Oper} {N : Option Tmp} {a : Act} {w : World} {K : Act → World → Prop} {f : FuncId} {fn : Func} {ag : Array Operand} {ts : Array TypeId} {t : Tmp} (hf : P.funcs[f]? = some fn) (hname : (fn.name == "runtime.NumGoroutine") = false) (hb : fn.body.isSome = true) (args : Array Value)
    (hw : Region.wanted oi (yielded ops a.tmps) = true) (hN : oi.dst = N) (hop : oi.op = .call { callee := .value (.tmp t), args := ag, argTypes := ts }) (ht : a.eval (.tmp t) = .func (.func f) #[] #[]) (hargs : ag.map a.eval = args)
    (h : Calls P f args w fun e w' => ∃ v, e = .returned v ∧ K (a.put N v) w') : if Region.wanted oi (yielded ops a.tmps) = true then Oper.wp P oi a w K Q else K (a.put N undef) w := by
  refine call_ f args hw hN ?_ h
  have he := enters_ hf hname hb args w
  unfold execOp
  simp [hop, resolve, Deferred.ofValue, invoke, ht, hargs, he]
end
/-- The order's number of a list's string. -/
def kyz (zs : List ByteArray) (p : Nat) : Nat := key (bl (zs.getD p ⟨#[]⟩))
theorem kyz_at {zs : List ByteArray} {p : Nat} (h : p < zs.length) : kyz zs p = key (bl zs[p]) := by unfold kyz; simp [List.getD_eq_getElem?_getD, h]
theorem kyz_set (zs : List ByteArray) (p q : Nat) (x : ByteArray) (h : p < zs.length) : kyz (zs.set p x) q = if p = q then key (bl x) else kyz zs q := by
  unfold kyz
  by_cases e : p = q
  · subst e; simp [List.getD_eq_getElem?_getD, h]
  · rw [if_neg e]; simp [List.getD_eq_getElem?_getD, e]
def SortTo (zs : List ByteArray) (m : Nat) : Prop := ∀ p q, p < q → q < m → kyz zs p ≤ kyz zs q
/-- All but place j is sorted up to place i; what stands at j is not above what follows. -/
def SortBut (zs : List ByteArray) (i j : Nat) : Prop := ∀ p q, p < q → q ≤ i → q ≠ j → kyz zs p ≤ kyz zs q
theorem SortBut.start {zs : List ByteArray} {i : Nat} (h : SortTo zs i) : SortBut zs i i := fun p q h1 h2 h3 => h p q h1 (by omega)
theorem SortBut.done {zs : List ByteArray} {i j : Nat} (h : SortBut zs i j) (hj : j = 0 ∨ kyz zs (j - 1) ≤ kyz zs j) : SortTo zs (i + 1) := fun p q h1 h2 => by
  by_cases e : q = j
  · subst e
    rcases hj with hj | hj
    · omega
    · by_cases e2 : p = q - 1
      · subst e2; exact hj
      · exact Nat.le_trans (h p (q - 1) (by omega) (by omega) (by omega)) hj
  · exact h p q h1 (by omega) e
theorem SortBut.swap {zs : List ByteArray} {i j : Nat} {x y : ByteArray} (h : SortBut zs i j) (hj : 0 < j) (hji : j ≤ i) (hi : i < zs.length) (hx : zs[j]'(by omega) = x) (hy : zs[j - 1]'(by omega) = y) (hlt : key (bl x) < key (bl y)) : SortBut ((zs.set j y).set (j - 1) x) i (j - 1) := by
  have kx : kyz zs j = key (bl x) := by rw [kyz_at (by omega), hx]
  have ky : kyz zs (j - 1) = key (bl y) := by rw [kyz_at (by omega), hy]
  intro p q h1 h2 h3
  rw [kyz_set (zs.set j y) (j - 1) p x (by rw [List.length_set]; omega), kyz_set (zs.set j y) (j - 1) q x (by rw [List.length_set]; omega), kyz_set zs j p y (by omega), kyz_set zs j q y (by omega)]
  rw [if_neg (show ¬ (j - 1 = q) by omega)]
  by_cases e1 : j = q
  · rw [if_pos e1]
    by_cases e2 : j - 1 = p
    · rw [if_pos e2]; omega
    · rw [if_neg e2, if_neg (by omega), ← ky]
      exact h p (j - 1) (by omega) (by omega) (by omega)
  · rw [if_neg e1]
    by_cases e2 : j - 1 = p
    · rw [if_pos e2, ← kx]
      exact h j q (by omega) h2 (by omega)
    · rw [if_neg e2]
      by_cases e3 : j = p
      · rw [if_pos e3, ← ky]
        exact h (j - 1) q (by omega) h2 (by omega)
      · rw [if_neg e3]
        exact h p q h1 h2 (by omega)
theorem swap_perm {zs : List ByteArray} {j : Nat} {x y : ByteArray} (hj : 0 < j) (hl : j < zs.length) (hx : zs[j] = x) (hy : zs[j - 1]'(by omega) = y) : ((zs.set j y).set (j - 1) x).Perm zs := by
  subst hx hy
  exact List.set_set_perm hl (by omega)
set_option maxHeartbeats 4000000 in
set_option maxRecDepth 100000 in
theorem ins_any (ws : List ByteArray) (A : Option Addr) (c base : Nat) (w0 w : World) (hl : ws.length ≤ 12) (hw : ∀ x ∈ ws, Ltr 4 (bl x) ∧ x.size ≤ 60) (hR : Kd.R Kd.string 9 w base (fun _ => True) (.slice A ws.length c) ws) (hB : Below base w0 w) (hbase : base ≤ w.heap.size) :
    Calls Try.prog 80 #[.slice A ws.length c, .int .i64 0, .int .i64 (ws.length : Int), .func (.func 61) #[] #[]] w fun e w' => ∃ zs, e = .returned (.tuple #[]) ∧ Aside0 (zs.Perm ws ∧ SortTo zs ws.length) ∧ Aside0 (Kd.R Kd.string 9 w' base (fun _ => True) (.slice A ws.length c) zs) ∧ Below base w0 w' ∧ w.heap.size ≤ w'.heap.size := by
  have HW := Aside0.mk hw
  have HR := Aside0.mk hR
  have HB := Aside0.mk hB
  have HBS := Aside0.mk hbase
  obtain ⟨n, hn⟩ : ∃ n, ws.length = n := ⟨_, rfl⟩
  rw [hn] at HR ⊢
  have HN := Aside0.mk hn
  have hn12 : (n : Int) ≤ 12 := by omega
  clear hw hR hB hbase hl hn
  go_enter Try.func80, Try.ntmps80
  go_wp2
  go_loopw [8, 9] (fun v8 v9 wr => ∃ (i : Nat) (zs : List ByteArray), v8 = .int .i64 i ∧ 1 ≤ i ∧ i ≤ n + 1 ∧ Aside0 (zs.Perm ws ∧ SortTo zs i) ∧ Aside0 (Kd.R Kd.string 9 wr base (fun _ => True) (.slice A n c) zs) ∧ Aside0 (Below base w0 wr ∧ w.heap.size ≤ wr.heap.size)) (fun v8 _ _ => n + 1 - (intOf v8).toNat)
  case atStart => exact ⟨1, ws, rfl, by omega, by omega, Aside0.mk ⟨List.Perm.refl _, fun p q h1 h2 => by omega⟩, HR, Aside0.mk ⟨HB.out, Nat.le_refl _⟩⟩
  case round =>
    clear HR HB
    obtain ⟨i, zs, rfl, hi1, hi2, HZ, HR, HB⟩ := hrel
    by_cases hlt : i < n
    · have hltI : (i : Int) < (n : Int) := by omega
      have HLT := Aside0.mk hlt
      have HI1 := Aside0.mk hi1
      have HS0 := Aside0.mk (SortBut.start HZ.out.2)
      have HP0 := Aside0.mk HZ.out.1
      clear hlt hi1 hi2 HZ
      go_upto_region 4 with (fail)
      go_loopw [9] (fun v9 wz => ∃ (j : Nat) (zs : List ByteArray), v9 = .int .i64 j ∧ j ≤ i ∧ Aside0 (zs.Perm ws ∧ SortBut zs i j) ∧ Aside0 (Kd.R Kd.string 9 wz base (fun _ => True) (.slice A n c) zs) ∧ Aside0 (Below base w0 wz ∧ w.heap.size ≤ wz.heap.size)) (fun v9 _ => (intOf v9).toNat)
      case atStart => exact ⟨i, zs, rfl, Nat.le_refl _, Aside0.mk ⟨HP0.out, HS0.out⟩, HR, HB⟩
      case round =>
        clear HR HB HS0 HP0
        obtain ⟨j, zs, rfl, hji, HZ, HR, HB⟩ := hrel
        have HJI := Aside0.mk hji
        have HLEN := Aside0.mk (show zs.length = n by rw [HZ.out.1.length_eq, HN.out])
        by_cases hj : 0 < j
        · have hjI : (0 : Int) < (j : Int) := by omega
          have hjn : (j : Int) < (n : Int) := by have := HLT.out; omega
          have hjz : j < zs.length := by have := HLT.out; have := HLEN.out; omega
          obtain ⟨x, hx⟩ : ∃ x, zs[j] = x := ⟨_, rfl⟩
          obtain ⟨y, hy⟩ : ∃ y, zs[j - 1]'(by omega) = y := ⟨_, rfl⟩
          have HX := Aside0.mk (show ∀ h : j < zs.length, zs[j] = x from fun _ => hx)
          have HY := Aside0.mk (show ∀ h : j - 1 < zs.length, zs[j - 1] = y from fun _ => hy)
          have HXW := Aside0.mk (HW.out x (HZ.out.1.mem_iff.1 (by rw [← hx]; exact List.getElem_mem _)))
          have HYW := Aside0.mk (HW.out y (HZ.out.1.mem_iff.1 (by rw [← hy]; exact List.getElem_mem _)))
          obtain ⟨v, hv⟩ : ∃ v, cmpL x y = v := ⟨_, rfl⟩
          have HV := Aside0.mk (show v < 0 ↔ key (bl x) < key (bl y) by rw [← hv]; exact cmpL_neg HXW.out.1 HYW.out.1)
          have BL := Aside0.mk (fun W => show Calls Try.prog 61 #[.string x, .string y] W fun e w' => e = .returned (.int .i64 v) ∧ Below W.heap.size W w' by rw [← hv]; exact bylen_any x y W (by have := HXW.out.2; omega) (by have := HYW.out.2; omega))
          have j1 : ((j : Int) - 1).toNat = j - 1 := by omega
          have JC := Aside0.mk (show (j : Int) - 1 = ((j - 1 : Nat) : Int) by omega)
          have JC2 := Aside0.mk (show j - 1 ≤ i by omega)
          have JC3 := Aside0.mk (show ((j : Int) - 1).toNat < ((j : Int)).toNat by omega)
          have j0 : (0 : Int) ≤ (j : Int) - 1 := by omega
          have hj1I : (1 : Int) ≤ (j : Int) := by omega
          have jn1 : (j : Int) - 1 < (n : Int) := by omega
          obtain ⟨g, cap, hA, hgb, hgl, hcl, hHG⟩ := Kd.R_form HR.out (by have := HLEN.out; have := HLT.out; omega)
          injection hA with hA1 hA2 hA3
          subst hA1
          clear hA2 hA3 hgl hcl hHG
          have HGB := Aside0.mk hgb
          have hc := Kd.R_celln ByteArray.empty HR.out (j : Int) (by omega) (by omega)
          have hc1 := Kd.R_celln ByteArray.empty HR.out ((j - 1 : Nat) : Int) (by omega) (by omega)
          rw [rdOf_nat zs j hjz, hx, Int.toNat_natCast] at hc
          rw [rdOf_nat zs (j - 1) (by omega), hy, Int.toNat_natCast] at hc1
          have HJ0 := Aside0.mk hj
          have WJ := Aside0.mk (show wrap64 ((j : Int) - 1) = (j : Int) - 1 by unfold wrap64; omega)
          obtain ⟨eb, heb⟩ : ∃ b, decide (v < 0) = b := ⟨_, rfl⟩
          have HEB := Aside0.mk (show eb = decide (v < 0) from heb.symm)
          have jm := WJ.out
          clear hx hy hjz hv
          go_upto_region 4 with (fail)
          refine start_ (n := 17) (S := fun w' => w'.cell? ⟨g, j, none⟩ = some (.string x) ∧ w'.cell? ⟨g, j - 1, none⟩ = some (.string y)) (ds := []) #[false, false, false, false, false, false, false, false, false, false, false, false, false, false, false, false, false] (by kernel_rfl) rfl rfl ⟨hc.1, hc1.1⟩ (fun hHeld => ?_)
          refine pure_ (i := 0) (N := (some 18)) (v := ?_) (a' := ?_) #[true, false, false, false, false, false, false, false, false, false, false, false, false, false, false, false, false] rfl rfl (by kernel_rfl) (fun _ _ _ h => h) (Or.inl ⟨by rfl, ?_⟩) ?_ ?_
          rotate_left
          · intro w'
            go_simp
            with_reducible rfl
          rotate_left
          · simp only [Act.put, List.setIfInBounds_toArray, List.set_cons_zero, List.set_cons_succ, i64_w, i32_w]
            rfl
          refine pure_ (i := 1) (N := (some 19)) (v := ?_) (a' := ?_) #[true, true, false, false, false, false, false, false, false, false, false, false, false, false, false, false, false] rfl rfl (by kernel_rfl) (fun _ _ _ h => h) (Or.inl ⟨by rfl, ?_⟩) ?_ ?_
          rotate_left
          · intro w'
            go_simp
            with_reducible rfl
          rotate_left
          · simp only [Act.put, List.setIfInBounds_toArray, List.set_cons_zero, List.set_cons_succ, i64_w, i32_w]
            rfl
          refine pure_ (i := 2) (N := (some 20)) (v := ?_) (a' := ?_) #[true, true, true, false, false, false, false, false, false, false, false, false, false, false, false, false, false] rfl rfl (by kernel_rfl) (fun _ _ _ h => h) (Or.inl ⟨by rfl, ?_⟩) ?_ ?_
          rotate_left
          · intro w'
            go_simp
            with_reducible rfl
          rotate_left
          · simp only [Act.put, List.setIfInBounds_toArray, List.set_cons_zero, List.set_cons_succ, i64_w, i32_w]
            rfl
          refine pure_ (i := 3) (N := (some 21)) (v := ?_) (a' := ?_) #[true, true, true, true, false, false, false, false, false, false, false, false, false, false, false, false, false] rfl rfl (by kernel_rfl) (fun _ _ _ h => h) (Or.inl ⟨by rfl, ?_⟩) ?_ ?_
          rotate_left
          · intro w'
            go_simp
            with_reducible rfl
          rotate_left
          · simp only [Act.put, List.setIfInBounds_toArray, List.set_cons_zero, List.set_cons_succ, i64_w, i32_w]
            rfl
          refine pure_ (i := 4) (N := (some 22)) (v := ?_) (a' := ?_) #[true, true, true, true, true, false, false, false, false, false, false, false, false, false, false, false, false] rfl rfl (by kernel_rfl) (fun _ _ _ h => h) (Or.inl ⟨by rfl, ?_⟩) ?_ ?_
          rotate_left
          · intro w'
            go_simp
            with_reducible rfl
          rotate_left
          · simp only [Act.put, List.setIfInBounds_toArray, List.set_cons_zero, List.set_cons_succ, i64_w, i32_w]
            rfl
          refine pure_ (i := 5) (N := (some 23)) (v := ?_) (a' := ?_) #[true, true, true, true, true, true, false, false, false, false, false, false, false, false, false, false, false] rfl rfl (by kernel_rfl) (fun _ _ _ h => h) (Or.inl ⟨by rfl, ?_⟩) ?_ ?_
          rotate_left
          · intro w'
            go_simp
            with_reducible rfl
          rotate_left
          · simp only [Act.put, List.setIfInBounds_toArray, List.set_cons_zero, List.set_cons_succ, i64_w, i32_w]
            rfl
          refine pure_ (i := 6) (N := (some 24)) (v := ?_) (a' := ?_) #[true, true, true, true, true, true, true, false, false, false, false, false, false, false, false, false, false] rfl rfl (by kernel_rfl) (fun _ _ _ h => h) (Or.inl ⟨by rfl, ?_⟩) ?_ ?_
          rotate_left
          · intro w'
            go_simp
            with_reducible rfl
          rotate_left
          · simp only [Act.put, List.setIfInBounds_toArray, List.set_cons_zero, List.set_cons_succ, i64_w, i32_w]
            rfl
          refine pure_ (i := 7) (N := (some 25)) (v := ?_) (a' := ?_) #[true, true, true, true, true, true, true, true, false, false, false, false, false, false, false, false, false] rfl rfl (by kernel_rfl) (fun _ _ _ h => h) (Or.inl ⟨by rfl, ?_⟩) ?_ ?_
          rotate_left
          · intro w'
            go_simp
            with_reducible rfl
          rotate_left
          · simp only [Act.put, List.setIfInBounds_toArray, List.set_cons_zero, List.set_cons_succ, i64_w, i32_w]
            rfl
          refine take_ (i := 8) (N := (some 26)) (v := ?_) (a' := ?_) #[true, true, true, true, true, true, true, true, true, false, false, false, false, false, false, false, false] rfl rfl (by kernel_rfl) (fun _ _ _ h => h) (Or.inl ⟨by rfl, ?_⟩) hHeld ?_ ?_
          rotate_left
          · rintro w' ⟨s0, s1⟩
            go_simp
            with_reducible rfl
          rotate_left
          · simp only [Act.put, List.setIfInBounds_toArray, List.set_cons_zero, List.set_cons_succ, i64_w, i32_w]
            rfl
          refine pure_ (i := 9) (N := (some 27)) (v := ?_) (a' := ?_) #[true, true, true, true, true, true, true, true, true, true, false, false, false, false, false, false, false] rfl rfl (by kernel_rfl) (fun _ _ _ h => h) (Or.inl ⟨by rfl, ?_⟩) ?_ ?_
          rotate_left
          · intro w'
            go_simp
            with_reducible rfl
          rotate_left
          · simp only [Act.put, List.setIfInBounds_toArray, List.set_cons_zero, List.set_cons_succ, i64_w, i32_w]
            rfl
          refine pure_ (i := 10) (N := (some 28)) (v := ?_) (a' := ?_) #[true, true, true, true, true, true, true, true, true, true, true, false, false, false, false, false, false] rfl rfl (by kernel_rfl) (fun _ _ _ h => h) (Or.inl ⟨by rfl, ?_⟩) ?_ ?_
          rotate_left
          · intro w'
            go_simp
            with_reducible rfl
          rotate_left
          · simp only [Act.put, List.setIfInBounds_toArray, List.set_cons_zero, List.set_cons_succ, i64_w, i32_w]
            rfl
          refine pure_ (i := 11) (N := (some 29)) (v := ?_) (a' := ?_) #[true, true, true, true, true, true, true, true, true, true, true, true, false, false, false, false, false] rfl rfl (by kernel_rfl) (fun _ _ _ h => h) (Or.inl ⟨by rfl, ?_⟩) ?_ ?_
          rotate_left
          · intro w'
            go_simp
            with_reducible rfl
          rotate_left
          · simp only [Act.put, List.setIfInBounds_toArray, List.set_cons_zero, List.set_cons_succ, i64_w, i32_w]
            rfl
          refine pure_ (i := 12) (N := (some 30)) (v := ?_) (a' := ?_) #[true, true, true, true, true, true, true, true, true, true, true, true, true, false, false, false, false] rfl rfl (by kernel_rfl) (fun _ _ _ h => h) (Or.inl ⟨by rfl, ?_⟩) ?_ ?_
          rotate_left
          · intro w'
            go_simp
            with_reducible rfl
          rotate_left
          · simp only [Act.put, List.setIfInBounds_toArray, List.set_cons_zero, List.set_cons_succ, i64_w, i32_w]
            rfl
          refine take_ (i := 13) (N := (some 31)) (v := ?_) (a' := ?_) #[true, true, true, true, true, true, true, true, true, true, true, true, true, true, false, false, false] rfl rfl (by kernel_rfl) (fun _ _ _ h => h) (Or.inl ⟨by rfl, ?_⟩) hHeld ?_ ?_
          rotate_left
          · rintro w' ⟨s0, s1⟩
            go_simp
            with_reducible rfl
          rotate_left
          · simp only [Act.put, List.setIfInBounds_toArray, List.set_cons_zero, List.set_cons_succ, i64_w, i32_w]
            rfl
          refine one_ (i := 14) (N := (some 32)) #[true, true, true, true, true, true, true, true, true, true, true, true, true, true, true, false, false] rfl rfl (by kernel_rfl) (by decide) (fun K hK => ?_)
          refine goesT_ Try.func61 (by kernel_rfl) rfl #[.string x, .string y] (by rfl) rfl rfl rfl (by (try simp only [List.map_toArray, List.map_cons, List.map_nil]); first | done | rfl) ?_
          refine (BL.out _).mono ?_
          rintro e wa ⟨rfl, hb⟩
          refine ⟨_, rfl, ?_⟩
          have HBA := Aside0.mk (show Below wr.heap.size wr wa from below_step (below_drew (Below.refl _ _)) hb)
          clear hb
          refine hK.out _ _ ⟨pw_cell_below HBA.out hc.1, pw_cell_below HBA.out hc1.1⟩ (fun hHeld => ?_)
          clear hK K
          refine norm_ (a' := ?_) ?_ ?_
          rotate_left
          · show Act.put _ (some 32) _ = _
            simp only [Act.put, List.setIfInBounds_toArray, List.set_cons_zero, List.set_cons_succ, i64_w, i32_w]
            rfl
          refine pure_ (i := 15) (N := (some 33)) (v := ?_) (a' := ?_) #[true, true, true, true, true, true, true, true, true, true, true, true, true, true, true, true, false] rfl rfl (by kernel_rfl) (fun _ _ _ h => h) (Or.inl ⟨by rfl, ?_⟩) ?_ ?_
          rotate_left
          · intro w'
            go_simp
            with_reducible rfl
          rotate_left
          · simp only [Act.put, List.setIfInBounds_toArray, List.set_cons_zero, List.set_cons_succ, i64_w, i32_w]
            rfl
          refine pure_ (i := 16) (N := (some 34)) (v := ?_) (a' := ?_) #[true, true, true, true, true, true, true, true, true, true, true, true, true, true, true, true, true] rfl rfl (by kernel_rfl) (fun _ _ _ h => h) (Or.inl ⟨by rfl, ?_⟩) ?_ ?_
          rotate_left
          · intro w'
            go_simp
            with_reducible rfl
          rotate_left
          · simp only [Act.put, List.setIfInBounds_toArray, List.set_cons_zero, List.set_cons_succ, i64_w, i32_w]
            rfl
          refine done_ (by kernel_rfl) ?_
          clear jm
          have HRA := Aside0.mk (Kd.R_below HR.out HBA.out)
          have HBB := Aside0.mk (show Below base w0 wa ∧ w.heap.size ≤ wa.heap.size from ⟨below_then HB.out.1 (Nat.le_trans HBS.out HB.out.2) HBA.out, Nat.le_trans HB.out.2 HBA.out.size⟩)
          cases eb with
          | false =>
            have HDN := Aside0.mk (HZ.out.2.done (.inr (by
              have h1 : ¬ (v < 0) := of_decide_eq_false HEB.out.symm
              rw [HV.out] at h1
              have hjz : j < zs.length := by have := HLEN.out; omega
              rw [kyz_at hjz, kyz_at (show j - 1 < zs.length by omega), HX.out hjz, HY.out (by omega)]
              omega)))
            go_wp2
            go_roundw
            case rel => exact ⟨i + 1, zs, by go_num, by omega, by have := HLT.out; omega, Aside0.mk ⟨HZ.out.1, HDN.out⟩, HRA, HBB⟩
            case measure => simp [intOf]; have := HLT.out; omega
          | true =>
            have ha : wa.cell? ⟨g, j, none⟩ = some (.string x) ∧ wa.frozen? ⟨g, j, none⟩ = false := by
              have h := Kd.R_celln ByteArray.empty HRA.out (j : Int) (by omega) (by omega)
              have hjz : j < zs.length := by have := HLEN.out; omega
              rwa [rdOf_nat zs j hjz, HX.out hjz, Int.toNat_natCast] at h
            have ha1 : wa.cell? ⟨g, j - 1, none⟩ = some (.string y) ∧ wa.frozen? ⟨g, j - 1, none⟩ = false := by
              have h := Kd.R_celln ByteArray.empty HRA.out ((j - 1 : Nat) : Int) (by omega) (by omega)
              have hjz : j - 1 < zs.length := by have := HLEN.out; omega
              rwa [rdOf_nat zs (j - 1) hjz, HY.out hjz, Int.toNat_natCast] at h
            have HP1 := Aside0.mk (Kd.R_putg HRA.out (j : Int) y)
            have HP1R := Aside0.mk (show Kd.R Kd.string 9 (wa.setCell ⟨g, j, none⟩ (.string y)) base (fun _ => True) (.slice (some ⟨g, 0, none⟩) n c) (zs.set j y) by
              have h := HP1.out.1
              rw [Int.toNat_natCast] at h
              exact h)
            have hs1 : (wa.setCell ⟨g, j, none⟩ (.string y)).cell? ⟨g, j - 1, none⟩ = some (.string y) := by
              have h := (Kd.R_celln ByteArray.empty HP1R.out ((j - 1 : Nat) : Int) (by omega) (by omega)).1
              have hjz : j - 1 < (zs.set j y).length := by have := HLEN.out; simp; omega
              rw [rdOf_nat _ _ hjz, Int.toNat_natCast, List.getElem_set_ne (by have := HJ0.out; omega), HY.out (by have := HLEN.out; omega)] at h
              exact h
            have hs2 : (wa.setCell ⟨g, j, none⟩ (.string y)).frozen? ⟨g, j - 1, none⟩ = false := by
              have h := (Kd.R_celln ByteArray.empty HP1R.out ((j - 1 : Nat) : Int) (by omega) (by omega)).2
              rwa [Int.toNat_natCast] at h
            have HP2 := Aside0.mk (show Kd.R Kd.string 9 ((wa.setCell ⟨g, j, none⟩ (.string y)).setCell ⟨g, j - 1, none⟩ (.string x)) base (fun _ => True) (.slice (some ⟨g, 0, none⟩) n c) ((zs.set j y).set (j - 1) x) by
              have h := (Kd.R_putg HP1R.out ((j - 1 : Nat) : Int) x).1
              rw [Int.toNat_natCast] at h
              exact h)
            have HBX := Aside0.mk (show Below base w0 ((wa.setCell ⟨g, j, none⟩ (.string y)).setCell ⟨g, j - 1, none⟩ (.string x)) ∧ w.heap.size ≤ ((wa.setCell ⟨g, j, none⟩ (.string y)).setCell ⟨g, j - 1, none⟩ (.string x)).heap.size from
              ⟨(HBB.out.1.setCell HGB.out _).setCell HGB.out _, by rw [World.size_setCell, World.size_setCell]; exact HBB.out.2⟩)
            have HNX := Aside0.mk (show ((zs.set j y).set (j - 1) x).Perm ws ∧ SortBut ((zs.set j y).set (j - 1) x) i (j - 1) by
              have hjz : j < zs.length := by have := HLEN.out; omega
              refine ⟨(swap_perm HJ0.out hjz (HX.out hjz) (HY.out (by omega))).trans HZ.out.1, HZ.out.2.swap HJ0.out HJI.out (by have := HLEN.out; have := HLT.out; omega) (HX.out hjz) (HY.out (by omega)) (HV.out.1 (of_decide_eq_true HEB.out.symm))⟩)
            have jm := WJ.out
            go_upto_region 6 with (fail)
            refine start_ (n := 18) (S := fun w' => w'.cell? ⟨g, j, none⟩ = some (.string x) ∧ w'.cell? ⟨g, j - 1, none⟩ = some (.string y)) (ds := [15, 17]) #[false, false, false, false, false, false, false, false, false, false, false, false, false, false, false, false, false, false] (by kernel_rfl) rfl rfl ⟨ha.1, ha1.1⟩ (fun hHeld => ?_)
            refine pure_ (i := 0) (N := (some 37)) (v := ?_) (a' := ?_) #[true, false, false, false, false, false, false, false, false, false, false, false, false, false, false, false, false, false] rfl rfl (by kernel_rfl) (fun _ _ _ h => h) (Or.inl ⟨by rfl, ?_⟩) ?_ ?_
            rotate_left
            · intro w'
              go_simp
              with_reducible rfl
            rotate_left
            · simp only [Act.put, List.setIfInBounds_toArray, List.set_cons_zero, List.set_cons_succ, i64_w, i32_w]
              rfl
            refine pure_ (i := 1) (N := (some 38)) (v := ?_) (a' := ?_) #[true, true, false, false, false, false, false, false, false, false, false, false, false, false, false, false, false, false] rfl rfl (by kernel_rfl) (fun _ _ _ h => h) (Or.inl ⟨by rfl, ?_⟩) ?_ ?_
            rotate_left
            · intro w'
              go_simp
              with_reducible rfl
            rotate_left
            · simp only [Act.put, List.setIfInBounds_toArray, List.set_cons_zero, List.set_cons_succ, i64_w, i32_w]
              rfl
            refine pure_ (i := 2) (N := (some 39)) (v := ?_) (a' := ?_) #[true, true, true, false, false, false, false, false, false, false, false, false, false, false, false, false, false, false] rfl rfl (by kernel_rfl) (fun _ _ _ h => h) (Or.inl ⟨by rfl, ?_⟩) ?_ ?_
            rotate_left
            · intro w'
              go_simp
              with_reducible rfl
            rotate_left
            · simp only [Act.put, List.setIfInBounds_toArray, List.set_cons_zero, List.set_cons_succ, i64_w, i32_w]
              rfl
            refine pure_ (i := 3) (N := (some 40)) (v := ?_) (a' := ?_) #[true, true, true, true, false, false, false, false, false, false, false, false, false, false, false, false, false, false] rfl rfl (by kernel_rfl) (fun _ _ _ h => h) (Or.inl ⟨by rfl, ?_⟩) ?_ ?_
            rotate_left
            · intro w'
              go_simp
              with_reducible rfl
            rotate_left
            · simp only [Act.put, List.setIfInBounds_toArray, List.set_cons_zero, List.set_cons_succ, i64_w, i32_w]
              rfl
            refine pure_ (i := 4) (N := (some 41)) (v := ?_) (a' := ?_) #[true, true, true, true, true, false, false, false, false, false, false, false, false, false, false, false, false, false] rfl rfl (by kernel_rfl) (fun _ _ _ h => h) (Or.inl ⟨by rfl, ?_⟩) ?_ ?_
            rotate_left
            · intro w'
              go_simp
              with_reducible rfl
            rotate_left
            · simp only [Act.put, List.setIfInBounds_toArray, List.set_cons_zero, List.set_cons_succ, i64_w, i32_w]
              rfl
            refine pure_ (i := 5) (N := (some 42)) (v := ?_) (a' := ?_) #[true, true, true, true, true, true, false, false, false, false, false, false, false, false, false, false, false, false] rfl rfl (by kernel_rfl) (fun _ _ _ h => h) (Or.inl ⟨by rfl, ?_⟩) ?_ ?_
            rotate_left
            · intro w'
              go_simp
              with_reducible rfl
            rotate_left
            · simp only [Act.put, List.setIfInBounds_toArray, List.set_cons_zero, List.set_cons_succ, i64_w, i32_w]
              rfl
            refine pure_ (i := 6) (N := (some 43)) (v := ?_) (a' := ?_) #[true, true, true, true, true, true, true, false, false, false, false, false, false, false, false, false, false, false] rfl rfl (by kernel_rfl) (fun _ _ _ h => h) (Or.inl ⟨by rfl, ?_⟩) ?_ ?_
            rotate_left
            · intro w'
              go_simp
              with_reducible rfl
            rotate_left
            · simp only [Act.put, List.setIfInBounds_toArray, List.set_cons_zero, List.set_cons_succ, i64_w, i32_w]
              rfl
            refine pure_ (i := 7) (N := (some 44)) (v := ?_) (a' := ?_) #[true, true, true, true, true, true, true, true, false, false, false, false, false, false, false, false, false, false] rfl rfl (by kernel_rfl) (fun _ _ _ h => h) (Or.inl ⟨by rfl, ?_⟩) ?_ ?_
            rotate_left
            · intro w'
              go_simp
              with_reducible rfl
            rotate_left
            · simp only [Act.put, List.setIfInBounds_toArray, List.set_cons_zero, List.set_cons_succ, i64_w, i32_w]
              rfl
            refine pure_ (i := 8) (N := (some 45)) (v := ?_) (a' := ?_) #[true, true, true, true, true, true, true, true, true, false, false, false, false, false, false, false, false, false] rfl rfl (by kernel_rfl) (fun _ _ _ h => h) (Or.inl ⟨by rfl, ?_⟩) ?_ ?_
            rotate_left
            · intro w'
              go_simp
              with_reducible rfl
            rotate_left
            · simp only [Act.put, List.setIfInBounds_toArray, List.set_cons_zero, List.set_cons_succ, i64_w, i32_w]
              rfl
            refine take_ (i := 9) (N := (some 46)) (v := ?_) (a' := ?_) #[true, true, true, true, true, true, true, true, true, true, false, false, false, false, false, false, false, false] rfl rfl (by kernel_rfl) (fun _ _ _ h => h) (Or.inl ⟨by rfl, ?_⟩) hHeld ?_ ?_
            rotate_left
            · rintro w' ⟨s0, s1⟩
              go_simp
              with_reducible rfl
            rotate_left
            · simp only [Act.put, List.setIfInBounds_toArray, List.set_cons_zero, List.set_cons_succ, i64_w, i32_w]
              rfl
            refine pure_ (i := 10) (N := (some 47)) (v := ?_) (a' := ?_) #[true, true, true, true, true, true, true, true, true, true, true, false, false, false, false, false, false, false] rfl rfl (by kernel_rfl) (fun _ _ _ h => h) (Or.inl ⟨by rfl, ?_⟩) ?_ ?_
            rotate_left
            · intro w'
              go_simp
              with_reducible rfl
            rotate_left
            · simp only [Act.put, List.setIfInBounds_toArray, List.set_cons_zero, List.set_cons_succ, i64_w, i32_w]
              rfl
            refine pure_ (i := 11) (N := (some 48)) (v := ?_) (a' := ?_) #[true, true, true, true, true, true, true, true, true, true, true, true, false, false, false, false, false, false] rfl rfl (by kernel_rfl) (fun _ _ _ h => h) (Or.inl ⟨by rfl, ?_⟩) ?_ ?_
            rotate_left
            · intro w'
              go_simp
              with_reducible rfl
            rotate_left
            · simp only [Act.put, List.setIfInBounds_toArray, List.set_cons_zero, List.set_cons_succ, i64_w, i32_w]
              rfl
            refine pure_ (i := 12) (N := (some 49)) (v := ?_) (a' := ?_) #[true, true, true, true, true, true, true, true, true, true, true, true, true, false, false, false, false, false] rfl rfl (by kernel_rfl) (fun _ _ _ h => h) (Or.inl ⟨by rfl, ?_⟩) ?_ ?_
            rotate_left
            · intro w'
              go_simp
              with_reducible rfl
            rotate_left
            · simp only [Act.put, List.setIfInBounds_toArray, List.set_cons_zero, List.set_cons_succ, i64_w, i32_w]
              rfl
            refine take_ (i := 13) (N := (some 50)) (v := ?_) (a' := ?_) #[true, true, true, true, true, true, true, true, true, true, true, true, true, true, false, false, false, false] rfl rfl (by kernel_rfl) (fun _ _ _ h => h) (Or.inl ⟨by rfl, ?_⟩) hHeld ?_ ?_
            rotate_left
            · rintro w' ⟨s0, s1⟩
              go_simp
              with_reducible rfl
            rotate_left
            · simp only [Act.put, List.setIfInBounds_toArray, List.set_cons_zero, List.set_cons_succ, i64_w, i32_w]
              rfl
            refine pure_ (i := 14) (N := (some 51)) (v := ?_) (a' := ?_) #[true, true, true, true, true, true, true, true, true, true, true, true, true, true, true, false, false, false] rfl rfl (by kernel_rfl) (fun _ _ _ h => h) (Or.inl ⟨by rfl, ?_⟩) ?_ ?_
            rotate_left
            · intro w'
              go_simp
              with_reducible rfl
            rotate_left
            · simp only [Act.put, List.setIfInBounds_toArray, List.set_cons_zero, List.set_cons_succ, i64_w, i32_w]
              rfl
            refine last_ (i := 15) (N := none) #[true, true, true, true, true, true, true, true, true, true, true, true, true, true, true, true, false, false] rfl rfl (by kernel_rfl) (by decide) (fun K hK => ?_)
            refine skip_ (w1 := ?_) (by rfl) rfl ?_ ?_
            rotate_left
            · go_simp
              rfl
            refine hK.out _ _ ?_
            clear hK K
            refine pure_ (i := 16) (N := (some 52)) (v := ?_) (a' := ?_) #[true, true, true, true, true, true, true, true, true, true, true, true, true, true, true, true, true, false] rfl rfl (by kernel_rfl) (fun _ _ _ h => h) (Or.inl ⟨by rfl, ?_⟩) ?_ ?_
            rotate_left
            · intro w'
              go_simp
              with_reducible rfl
            rotate_left
            · simp only [Act.put, List.setIfInBounds_toArray, List.set_cons_zero, List.set_cons_succ, i64_w, i32_w]
              rfl
            refine last_ (i := 17) (N := none) #[true, true, true, true, true, true, true, true, true, true, true, true, true, true, true, true, true, true] rfl rfl (by kernel_rfl) (by decide) (fun K hK => ?_)
            refine skip_ (w1 := ?_) (by rfl) rfl ?_ ?_
            rotate_left
            · go_simp
              rfl
            refine hK.out _ _ ?_
            clear hK K
            refine done_ (by kernel_rfl) ?_
            go_wp2
            go_roundw
            case rel => exact ⟨j - 1, _, by rw [JC.out], JC2.out, HNX, ⟨Kd.R_below HP2.out (below_drew (Below.refl _ _))⟩, Aside0.mk ⟨HBX.out.1.drew, HBX.out.2⟩⟩
            case measure => exact JC3.out
        · have hj0 : j = 0 := by omega
          subst hj0
          have HDN := Aside0.mk (HZ.out.2.done (.inl rfl))
          clear hj hji
          go_upto_region 4 with (fail)
          refine start_ (n := 17) (S := fun w' => True) (ds := []) #[false, false, false, false, false, false, false, false, false, false, false, false, false, false, false, false, false] (by kernel_rfl) rfl rfl trivial (fun hHeld => ?_)
          refine pure_ (i := 0) (N := (some 18)) (v := ?_) (a' := ?_) #[true, false, false, false, false, false, false, false, false, false, false, false, false, false, false, false, false] rfl rfl (by kernel_rfl) (fun _ _ _ h => h) (Or.inl ⟨by rfl, ?_⟩) ?_ ?_
          rotate_left
          · intro w'
            go_simp
            with_reducible rfl
          rotate_left
          · simp only [Act.put, List.setIfInBounds_toArray, List.set_cons_zero, List.set_cons_succ, i64_w, i32_w]
            rfl
          refine pure_ (i := 1) (N := (some 19)) (v := ?_) (a' := ?_) #[true, true, false, false, false, false, false, false, false, false, false, false, false, false, false, false, false] rfl rfl (by kernel_rfl) (fun _ _ _ h => h) (Or.inl ⟨by rfl, ?_⟩) ?_ ?_
          rotate_left
          · intro w'
            go_simp
            with_reducible rfl
          rotate_left
          · simp only [Act.put, List.setIfInBounds_toArray, List.set_cons_zero, List.set_cons_succ, i64_w, i32_w]
            rfl
          refine pure_ (i := 2) (N := (some 20)) (v := ?_) (a' := ?_) #[true, true, true, false, false, false, false, false, false, false, false, false, false, false, false, false, false] rfl rfl (by kernel_rfl) (fun _ _ _ h => h) (Or.inl ⟨by rfl, ?_⟩) ?_ ?_
          rotate_left
          · intro w'
            go_simp
            with_reducible rfl
          rotate_left
          · simp only [Act.put, List.setIfInBounds_toArray, List.set_cons_zero, List.set_cons_succ, i64_w, i32_w]
            rfl
          refine pure_ (i := 3) (N := (some 21)) (v := ?_) (a' := ?_) #[true, true, true, true, false, false, false, false, false, false, false, false, false, false, false, false, false] rfl rfl (by kernel_rfl) (fun _ _ _ h => h) (Or.inl ⟨by rfl, ?_⟩) ?_ ?_
          rotate_left
          · intro w'
            go_simp
            with_reducible rfl
          rotate_left
          · simp only [Act.put, List.setIfInBounds_toArray, List.set_cons_zero, List.set_cons_succ, i64_w, i32_w]
            rfl
          refine pure_ (i := 4) (N := (some 22)) (v := undef) (a' := ?_) #[true, true, true, true, true, false, false, false, false, false, false, false, false, false, false, false, false] rfl rfl (by kernel_rfl) (fun _ _ _ h => h) (Or.inr ⟨by rfl, rfl⟩) ?_ ?_
          rotate_left
          · simp only [Act.put, List.setIfInBounds_toArray, List.set_cons_zero, List.set_cons_succ, i64_w, i32_w]
            rfl
          refine pure_ (i := 5) (N := (some 23)) (v := undef) (a' := ?_) #[true, true, true, true, true, true, false, false, false, false, false, false, false, false, false, false, false] rfl rfl (by kernel_rfl) (fun _ _ _ h => h) (Or.inr ⟨by rfl, rfl⟩) ?_ ?_
          rotate_left
          · simp only [Act.put, List.setIfInBounds_toArray, List.set_cons_zero, List.set_cons_succ, i64_w, i32_w]
            rfl
          refine pure_ (i := 6) (N := (some 24)) (v := undef) (a' := ?_) #[true, true, true, true, true, true, true, false, false, false, false, false, false, false, false, false, false] rfl rfl (by kernel_rfl) (fun _ _ _ h => h) (Or.inr ⟨by rfl, rfl⟩) ?_ ?_
          rotate_left
          · simp only [Act.put, List.setIfInBounds_toArray, List.set_cons_zero, List.set_cons_succ, i64_w, i32_w]
            rfl
          refine pure_ (i := 7) (N := (some 25)) (v := undef) (a' := ?_) #[true, true, true, true, true, true, true, true, false, false, false, false, false, false, false, false, false] rfl rfl (by kernel_rfl) (fun _ _ _ h => h) (Or.inr ⟨by rfl, rfl⟩) ?_ ?_
          rotate_left
          · simp only [Act.put, List.setIfInBounds_toArray, List.set_cons_zero, List.set_cons_succ, i64_w, i32_w]
            rfl
          refine pure_ (i := 8) (N := (some 26)) (v := undef) (a' := ?_) #[true, true, true, true, true, true, true, true, true, false, false, false, false, false, false, false, false] rfl rfl (by kernel_rfl) (fun _ _ _ h => h) (Or.inr ⟨by rfl, rfl⟩) ?_ ?_
          rotate_left
          · simp only [Act.put, List.setIfInBounds_toArray, List.set_cons_zero, List.set_cons_succ, i64_w, i32_w]
            rfl
          refine pure_ (i := 9) (N := (some 27)) (v := undef) (a' := ?_) #[true, true, true, true, true, true, true, true, true, true, false, false, false, false, false, false, false] rfl rfl (by kernel_rfl) (fun _ _ _ h => h) (Or.inr ⟨by rfl, rfl⟩) ?_ ?_
          rotate_left
          · simp only [Act.put, List.setIfInBounds_toArray, List.set_cons_zero, List.set_cons_succ, i64_w, i32_w]
            rfl
          refine pure_ (i := 10) (N := (some 28)) (v := undef) (a' := ?_) #[true, true, true, true, true, true, true, true, true, true, true, false, false, false, false, false, false] rfl rfl (by kernel_rfl) (fun _ _ _ h => h) (Or.inr ⟨by rfl, rfl⟩) ?_ ?_
          rotate_left
          · simp only [Act.put, List.setIfInBounds_toArray, List.set_cons_zero, List.set_cons_succ, i64_w, i32_w]
            rfl
          refine pure_ (i := 11) (N := (some 29)) (v := undef) (a' := ?_) #[true, true, true, true, true, true, true, true, true, true, true, true, false, false, false, false, false] rfl rfl (by kernel_rfl) (fun _ _ _ h => h) (Or.inr ⟨by rfl, rfl⟩) ?_ ?_
          rotate_left
          · simp only [Act.put, List.setIfInBounds_toArray, List.set_cons_zero, List.set_cons_succ, i64_w, i32_w]
            rfl
          refine pure_ (i := 12) (N := (some 30)) (v := undef) (a' := ?_) #[true, true, true, true, true, true, true, true, true, true, true, true, true, false, false, false, false] rfl rfl (by kernel_rfl) (fun _ _ _ h => h) (Or.inr ⟨by rfl, rfl⟩) ?_ ?_
          rotate_left
          · simp only [Act.put, List.setIfInBounds_toArray, List.set_cons_zero, List.set_cons_succ, i64_w, i32_w]
            rfl
          refine pure_ (i := 13) (N := (some 31)) (v := undef) (a' := ?_) #[true, true, true, true, true, true, true, true, true, true, true, true, true, true, false, false, false] rfl rfl (by kernel_rfl) (fun _ _ _ h => h) (Or.inr ⟨by rfl, rfl⟩) ?_ ?_
          rotate_left
          · simp only [Act.put, List.setIfInBounds_toArray, List.set_cons_zero, List.set_cons_succ, i64_w, i32_w]
            rfl
          refine pure_ (i := 14) (N := (some 32)) (v := undef) (a' := ?_) #[true, true, true, true, true, true, true, true, true, true, true, true, true, true, true, false, false] rfl rfl (by kernel_rfl) (fun _ _ _ h => h) (Or.inr ⟨by rfl, rfl⟩) ?_ ?_
          rotate_left
          · simp only [Act.put, List.setIfInBounds_toArray, List.set_cons_zero, List.set_cons_succ, i64_w, i32_w]
            rfl
          refine pure_ (i := 15) (N := (some 33)) (v := undef) (a' := ?_) #[true, true, true, true, true, true, true, true, true, true, true, true, true, true, true, true, false] rfl rfl (by kernel_rfl) (fun _ _ _ h => h) (Or.inr ⟨by rfl, rfl⟩) ?_ ?_
          rotate_left
          · simp only [Act.put, List.setIfInBounds_toArray, List.set_cons_zero, List.set_cons_succ, i64_w, i32_w]
            rfl
          refine pure_ (i := 16) (N := (some 34)) (v := ?_) (a' := ?_) #[true, true, true, true, true, true, true, true, true, true, true, true, true, true, true, true, true] rfl rfl (by kernel_rfl) (fun _ _ _ h => h) (Or.inl ⟨by rfl, ?_⟩) ?_ ?_
          rotate_left
          · intro w'
            go_simp
            with_reducible rfl
          rotate_left
          · simp only [Act.put, List.setIfInBounds_toArray, List.set_cons_zero, List.set_cons_succ, i64_w, i32_w]
            rfl
          refine done_ (by kernel_rfl) ?_
          go_wp2
          go_roundw
          case rel => exact ⟨i + 1, zs, by go_num, by omega, by have := HLT.out; omega, Aside0.mk ⟨HZ.out.1, HDN.out⟩, ⟨Kd.R_below HR.out (below_drew (Below.refl _ _))⟩, Aside0.mk ⟨HB.out.1.drew, HB.out.2⟩⟩
          case measure => simp [intOf]; have := HLT.out; omega
    · have hltI : ¬ ((i : Int) < (n : Int)) := by omega
      have HS2 := Aside0.mk (show SortTo zs n from fun p q h1 h2 => HZ.out.2 p q h1 (by omega))
      clear hlt hi1 hi2
      go_wp2
      go_end0
      exact ⟨rfl, zs, Aside0.mk ⟨HZ.out.1, HS2.out⟩, HR, HB.out.1, HB.out.2⟩
set_option maxHeartbeats 4000000 in
set_option maxRecDepth 100000 in
theorem pdq_any (ws : List ByteArray) (A : Option Addr) (c base : Nat) (lim : Int) (w0 w : World) (hl : ws.length ≤ 12) (hw : ∀ x ∈ ws, Ltr 4 (bl x) ∧ x.size ≤ 60) (hR : Kd.R Kd.string 9 w base (fun _ => True) (.slice A ws.length c) ws) (hB : Below base w0 w) (hbase : base ≤ w.heap.size) :
    Calls Try.prog 72 #[.slice A ws.length c, .int .i64 0, .int .i64 (ws.length : Int), .int .i64 lim, .func (.func 61) #[] #[]] w fun e w' => ∃ zs, e = .returned (.tuple #[]) ∧ Aside0 (zs.Perm ws ∧ SortTo zs ws.length) ∧ Aside0 (Kd.R Kd.string 9 w' base (fun _ => True) (.slice A ws.length c) zs) ∧ Below base w0 w' ∧ w.heap.size ≤ w'.heap.size := by
  have IN := Aside0.mk (ins_any ws A c base w0 w hl hw hR hB hbase)
  obtain ⟨n, hn⟩ : ∃ n, ws.length = n := ⟨_, rfl⟩
  rw [hn] at IN ⊢
  have hn12 : (n : Int) ≤ 12 := by omega
  clear hw hR hB hbase hl hn
  go_enter Try.func72, Try.ntmps72
  go_wp2
  refine wp_loop_rounds 1 ?_
  rw [rounds_succ]
  go_wp2_with (go_at_call 80; (with_reducible refine IN.out.mono ?_); rintro e w1 ⟨zs, rfl, HZ, HR, hb⟩; have HB := Aside0.mk hb; clear hb)
  refine bodyPost_ret (results_none rfl _ _ _) rfl ?_
  exact ⟨zs, rfl, HZ, HR, HB.out⟩
set_option maxHeartbeats 4000000 in
set_option maxRecDepth 100000 in
theorem len64_any (n : Nat) (w : World) (hn : n ≤ 4) : Calls Try.prog 89 #[.int .u64 (n : Int)] w fun e w' => ∃ l : Int, e = .returned (.int .i64 l) ∧ Drawn0 w w' := by
  have : n = 0 ∨ n = 1 ∨ n = 2 ∨ n = 3 ∨ n = 4 := by omega
  rcases this with rfl | rfl | rfl | rfl | rfl
  all_goals
    go_enter Try.func89, Try.ntmps89
    go_wp2
    go_ret
    exact ⟨_, rfl, Drawn0.refl _⟩
set_option maxHeartbeats 4000000 in
set_option maxRecDepth 100000 in
theorem blen_any (n : Nat) (w : World) (hn : n ≤ 4) : Calls Try.prog 73 #[.int .u64 (n : Int)] w fun e w' => ∃ l : Int, e = .returned (.int .i64 l) ∧ Drawn0 w w' := by
  have LN := Aside0.mk (len64_any n w hn)
  clear hn
  go_enter Try.func73, Try.ntmps73
  go_wp2_with (go_at_call 89; (with_reducible refine LN.out.mono ?_); rintro e w1 ⟨l, rfl, hd⟩; have HD := Aside0.mk hd; clear hd)
  go_ret
  exact ⟨l, rfl, HD.out⟩
set_option maxHeartbeats 4000000 in
set_option maxRecDepth 100000 in
theorem sort_any (ws : List ByteArray) (A : Option Addr) (c base : Nat) (w0 w : World) (hl : ws.length ≤ 4) (hw : ∀ x ∈ ws, Ltr 4 (bl x) ∧ x.size ≤ 60) (hR : Kd.R Kd.string 9 w base (fun _ => True) (.slice A ws.length c) ws) (hB : Below base w0 w) (hbase : base ≤ w.heap.size) :
    Calls Try.prog 60 #[.slice A ws.length c, .func (.func 61) #[] #[]] w fun e w' => ∃ zs, e = .returned (.tuple #[]) ∧ Aside0 (zs.Perm ws ∧ SortTo zs ws.length) ∧ Aside0 (Kd.R Kd.string 9 w' base (fun _ => True) (.slice A ws.length c) zs) ∧ Below base w0 w' ∧ w.heap.size ≤ w'.heap.size := by
  have IN := Aside0.mk (fun (lim : Int) (w1 : World) (hb : Below w.heap.size w w1) => pdq_any ws A c base lim w0 w1 (by omega) hw (Kd.R_below hR hb) (below_then hB hbase hb) (Nat.le_trans hbase hb.size))
  obtain ⟨n, hn⟩ : ∃ n, ws.length = n := ⟨_, rfl⟩
  rw [hn] at IN ⊢
  have LN := Aside0.mk (fun W => blen_any n W (by omega))
  have hn4 : (n : Int) ≤ 4 := by omega
  have hn0 : (0 : Int) ≤ (n : Int) := by omega
  clear hw hR hB hbase hl hn
  go_enter Try.func60, Try.ntmps60
  go_wp2_with (first | (go_at_call 73; (with_reducible refine (LN.out _).mono ?_); rintro e w1 ⟨l, rfl, hd⟩; have HB1 := Aside0.mk (show Below w.heap.size w w1 from hd.below); clear hd) | (go_at_call 72; (with_reducible refine (IN.out _ _ HB1.out).mono ?_); rintro e w2 ⟨zs, rfl, HZ, HR, hb⟩; have HB := Aside0.mk (show Below base w0 w2 ∧ w.heap.size ≤ w2.heap.size from ⟨hb.1, Nat.le_trans HB1.out.size hb.2⟩); clear hb))
  go_end0
  exact ⟨zs, rfl, HZ, HR, HB.out⟩
end Go.Proofs.Ytagdbadljcongaa.X
end

section
/- slices.Clone and Compact of strings in the seat's words. -/
set_option linter.unusedVariables false
set_option linter.unusedSimpArgs false
namespace Go.Proofs.Ytagdbadljcongaa.X
open Go Go.RowKit Go.Proofs Go.Proofs.YtagdbadljcongaaW.PrintWords Go.Proofs.YtagdbadljcongaaW.PrintLast Go.Proofs.YtagdbadljcongaaW.PrintMore
theorem addr_add (b off j : Nat) : (⟨b, off, none⟩ : Addr).add j = ⟨b, off + j, none⟩ := by
  unfold Addr.add
  split
  · rename_i h
    have : j = 0 := by simpa using h
    subst this; rfl
  · rfl
theorem clone_any (ws : List ByteArray) (A : Option Addr) (c : Nat) (w : World) (hl : ws.length ≤ 1000) (hA : ∀ a, A = some a → a.spot = none) (hC : Kd.C Kd.string w A ws.length ws) : Calls Try.prog 59 #[.slice A ws.length c] w fun e w' => ∃ B d, e = .returned (.slice B ws.length d) ∧ Aside0 (Kd.R Kd.string 9 w' w.heap.size (fun _ => True) (.slice B ws.length d) ws) ∧ Below w.heap.size w w' := by
  have hr := Kd.reads_of_C (d := ByteArray.empty) hC
  cases A with
  | none =>
    have h0 : ws.length = 0 := by
      rcases Nat.eq_zero_or_pos ws.length with h | h
      · exact h
      · obtain ⟨ad, e, _⟩ := hr.2.2 h
        cases e
    have hw : ws = [] := List.length_eq_zero_iff.1 h0
    subst hw
    refine (clone_nil 0 c w).mono ?_
    rintro e w' ⟨rfl, rfl⟩
    exact ⟨none, 0, rfl, ⟨Kd.R_nil _ _ _ _ _⟩, Below.refl _ _⟩
  | some a =>
    by_cases h0 : ws.length = 0
    · have hw : ws = [] := List.length_eq_zero_iff.1 h0
      subst hw
      refine (clone_zero a c w).mono ?_
      rintro e w' ⟨v, rfl, h1, _, h2⟩
      have hR : Kd.R Kd.string 9 w' w.heap.size (fun _ => True) v [] := Kd.R_of_own (xs := ([] : List ByteArray)) h1 (fun _ _ => trivial)
      obtain ⟨B, d, rfl⟩ := Kd.R_slice hR
      exact ⟨B, d, rfl, ⟨hR⟩, h2⟩
    · obtain ⟨ad, e, hc⟩ := hr.2.2 (by omega)
      injection e with e
      subst e
      have hsp : a.spot = none := hA a rfl
      obtain ⟨b, off, sp⟩ := a
      dsimp only at hsp
      subst hsp
      refine (clone_sh b off ws.length c ws w (Nat.le_refl _) (by omega) (fun j hj => ?_)).mono ?_
      · have := hc j hj
        rwa [addr_add] at this
      · rintro e w' ⟨v, rfl, h1, _, h2⟩
        rw [List.take_length] at h1
        have hR : Kd.R Kd.string 9 w' w.heap.size (fun _ => True) v ws := Kd.R_of_own (xs := ws) h1 (fun _ _ => trivial)
        obtain ⟨B, d, rfl⟩ := Kd.R_slice hR
        exact ⟨B, d, rfl, ⟨hR⟩, h2⟩
open Go.Lib Go.Sort in
theorem cmp_mem (d : Array (List UInt8)) : ∀ (m : Nat) (x : List UInt8), x ∈ compactUpTo d m ↔ ∃ j, j < m ∧ d[j]! = x
  | 0, x => by simp [compactUpTo]
  | m + 1, x => by
    rw [compactUpTo_succ, List.mem_append, cmp_mem d m x]
    constructor
    · rintro (⟨j, h1, h2⟩ | h)
      · exact ⟨j, by omega, h2⟩
      · split at h
        · rw [List.mem_singleton] at h
          exact ⟨m, by omega, h.symm⟩
        · cases h
    · rintro ⟨j, h1, rfl⟩
      by_cases e : j = m
      · subst e
        by_cases hk : keeps d j = true
        · right; rw [if_pos hk]; simp
        · left
          have hk2 : ¬ (j = 0 ∨ d[j]! ≠ d[j - 1]!) := fun h => hk (by unfold keeps; exact decide_eq_true h)
          exact ⟨j - 1, by omega, by
            by_cases h : d[j]! = d[j - 1]!
            · exact h.symm
            · exact absurd (.inr h) hk2⟩
      · exact .inl ⟨j, by omega, rfl⟩
def keyU (l : List UInt8) : Nat := key (l.map (·.toNat))
open Go.Lib Go.Sort in
theorem cmp_sorted (d : Array (List UInt8)) (hs : ∀ p q, p < q → q < d.size → keyU d[p]! ≤ keyU d[q]!) (hi : ∀ p q, p < d.size → q < d.size → keyU d[p]! = keyU d[q]! → d[p]! = d[q]!) : (compactUpTo d d.size).Pairwise (fun x y => keyU x < keyU y) := by
  unfold compactUpTo
  rw [List.pairwise_map]
  refine (List.pairwise_lt_range.filter _).imp_of_mem fun {a b} ha hb hab => ?_
  obtain ⟨a1, a2⟩ := List.mem_filter.1 ha
  obtain ⟨b1, b2⟩ := List.mem_filter.1 hb
  rw [List.mem_range] at a1 b1
  have h1 : b = 0 ∨ d[b]! ≠ d[b - 1]! := of_decide_eq_true b2
  have h2 : d[b]! ≠ d[b - 1]! := by rcases h1 with h | h; omega; exact h
  have h3 := hs (b - 1) b (by omega) b1
  have h4 : keyU d[b]! ≠ keyU d[b - 1]! := fun e => h2 (hi b (b - 1) b1 (by omega) e)
  have h5 : keyU d[a]! ≤ keyU d[b - 1]! := by
    by_cases e : a = b - 1
    · subst e; exact Nat.le_refl _
    · exact hs a (b - 1) (by omega) (by omega)
  omega
theorem below_sets {B g : Nat} {a : World} (hg : B ≤ g) : ∀ (vs : List Value) (o : Nat) (w : World), Below B a w → Below B a (w.setCells g o vs)
  | [], _, _, h => h
  | v :: r, o, w, h => below_sets hg r (o + 1) _ (h.setCell hg _)
/-- What Compact leaves of a sorted list. -/
structure Cpt (zs ds : List ByteArray) : Prop where
  mem : ∀ x, x ∈ ds ↔ x ∈ zs
  srt : ds.Pairwise (fun x y => key (bl x) < key (bl y))
theorem ba_of (x : ByteArray) : (⟨x.data.toList.toArray⟩ : ByteArray) = x := by cases x; rfl
open Go.Lib Go.Sort in
theorem compact_any (zs : List ByteArray) (A : Option Addr) (c base : Nat) (w0 w : World) (hl : zs.length ≤ 1000) (hw : ∀ x ∈ zs, Ltr 4 (bl x)) (hs : SortTo zs zs.length) (hR : Kd.R Kd.string 9 w base (fun _ => True) (.slice A zs.length c) zs) (hB : Below base w0 w) :
    Calls Try.prog 62 #[.slice A zs.length c] w fun e w' => ∃ ds, e = .returned (.slice A ds.length c) ∧ Aside0 (Cpt zs ds ∧ ds.length ≤ zs.length) ∧ Aside0 (Kd.C Kd.string w' A ds.length ds) ∧ Below base w0 w' ∧ w.heap.size ≤ w'.heap.size := by
  have hrr := (Kd.R_reads' hR).2
  by_cases h0 : zs.length = 0
  · have hz : zs = [] := List.length_eq_zero_iff.1 h0
    subst hz
    refine (compact_nil A c w).mono ?_
    rintro e w' ⟨rfl, rfl⟩
    exact ⟨[], rfl, Aside0.mk ⟨⟨fun x => Iff.rfl, List.Pairwise.nil⟩, Nat.le_refl _⟩, ⟨hrr.2⟩, hB, Nat.le_refl _⟩
  · obtain ⟨g, cap, hA, hgb, _, _, _⟩ := Kd.R_form hR (by omega)
    injection hA with hA1 _ _
    subst hA1
    have hcell : ∀ i, i < zs.length → w.cell? ⟨g, 0 + i, none⟩ = some (.string (zs.getD i ByteArray.empty)) ∧ w.frozen? ⟨g, 0 + i, none⟩ = false := fun i hi => by
      have h := Kd.R_celln ByteArray.empty hR (i : Int) (by omega) (by omega)
      rw [Int.toNat_natCast, rdOf_nat zs i hi] at h
      rw [Nat.zero_add]
      refine ⟨?_, h.2⟩
      rw [h.1]
      simp [List.getD_eq_getElem?_getD, hi]
    refine (compact_sh g 0 zs.length c (fun i => zs.getD i ByteArray.empty) w (by omega) hrr.1 (fun i hi => (hcell i hi).1) (fun i hi => (hcell i hi).2)).mono ?_
    rintro e w' ⟨rfl, q, rfl⟩
    obtain ⟨Z, hZ⟩ : ∃ Z, Lib.strsOf (fun i => zs.getD i ByteArray.empty) zs.length = Z := ⟨_, rfl⟩
    have hZl : Z.length = zs.length := by rw [← hZ, Lib.strsOf_length]
    have hZi : ∀ i, i < zs.length → Z[i]? = some ((zs.getD i ByteArray.empty).data.toList) := fun i hi => by rw [← hZ]; simp [Lib.strsOf, hi]
    rw [hZ]
    obtain ⟨K, hK⟩ : ∃ K, Lib.compact Z = K := ⟨_, rfl⟩
    have hKl : K.length ≤ zs.length := by
      rw [← hK, ← hZl]
      unfold Lib.compact compactUpTo
      rw [List.length_map]
      exact Nat.le_trans (List.length_filter_le _ _) (by simp)
    have hget : ∀ i, i < zs.length → Z.toArray[i]! = (zs.getD i ByteArray.empty).data.toList := fun i hi => by
      have := hZi i hi
      simp [getElem!_pos, hZl, hi] at this ⊢
      exact this
    have hgz : ∀ i, i < zs.length → keyU (Z.toArray[i]!) = kyz zs i := fun i hi => by rw [hget i hi]; rfl
    have hKm : ∀ l, l ∈ K ↔ ∃ x ∈ zs, x.data.toList = l := fun l => by
      rw [← hK]
      show l ∈ compactUpTo Z.toArray Z.length ↔ _
      rw [cmp_mem]
      constructor
      · rintro ⟨j, h1, rfl⟩
        rw [hZl] at h1
        refine ⟨zs.getD j ByteArray.empty, ?_, (hget j h1).symm⟩
        simp [List.getD_eq_getElem?_getD, h1]
      · rintro ⟨x, hx, rfl⟩
        obtain ⟨j, hj, rfl⟩ := List.getElem_of_mem hx
        refine ⟨j, by omega, ?_⟩
        rw [hget j hj]
        simp [List.getD_eq_getElem?_getD, hj]
    have hKs : K.Pairwise (fun x y => keyU x < keyU y) := by
      rw [← hK]
      have := cmp_sorted Z.toArray (fun p q hpq hq => by
        have hq' : q < zs.length := by simpa [hZl] using hq
        rw [hgz p (by omega), hgz q hq']
        exact hs p q hpq hq') (fun p q hp hq e => by
        have hp' : p < zs.length := by simpa [hZl] using hp
        have hq' : q < zs.length := by simpa [hZl] using hq
        rw [hgz p hp', hgz q hq', kyz_at hp', kyz_at hq'] at e
        have := key_inj _ _ _ rfl (hw _ (List.getElem_mem hp')) (hw _ (List.getElem_mem hq')) e
        have := bl_inj this
        rw [hget p hp', hget q hq']
        simp [List.getD_eq_getElem?_getD, hp', hq', this])
      simpa [Lib.compact] using this
    refine ⟨K.map fun l => (⟨l.toArray⟩ : ByteArray), by rw [List.length_map, hK], Aside0.mk ⟨⟨fun x => ?_, ?_⟩, by rw [List.length_map]; exact hKl⟩, ⟨?_⟩, below_sets hgb _ _ _ (by exact pw_below_drewN hB q), ?_⟩
    · rw [List.mem_map]
      constructor
      · rintro ⟨l, h1, rfl⟩
        obtain ⟨y, hy, rfl⟩ := (hKm l).1 h1
        rw [ba_of]; exact hy
      · intro hx
        exact ⟨x.data.toList, (hKm _).2 ⟨x, hx, rfl⟩, ba_of x⟩
    · rw [List.pairwise_map]
      refine hKs.imp fun {a b} h => ?_
      simpa [keyU, bl] using h
    · have hvl : ((K ++ List.replicate (zs.length - K.length) ([] : List UInt8)).map encStr).length = zs.length := by simp; omega
      refine Kd.C_of_reads (d := ByteArray.empty) ⟨rfl, by rw [List.length_map]; omega, fun hn => ⟨⟨g, 0, none⟩, rfl, fun j hj => ?_⟩⟩
      rw [List.length_map] at hj
      have h := World.cell?_setCells_in g ((K ++ List.replicate (zs.length - K.length) ([] : List UInt8)).map encStr) 0 (w.drewN q) (fun i hi => by
        rw [hvl] at hi
        have := (hcell i hi).1
        show (w.cell? ⟨g, 0 + i, none⟩).isSome = true
        rw [this]; rfl) j (by rw [hvl]; omega)
      rw [addr_add, hK, h]
      simp [List.getElem_append, hj, encStr]
    · have h := (setCells_same g ((Lib.compact Z ++ List.replicate (zs.length - (Lib.compact Z).length) ([] : List UInt8)).map encStr) 0 (w.drewN q)).2.2.2
      rw [h]
      exact Nat.le_refl _
end Go.Proofs.Ytagdbadljcongaa.X
end

section
/- The law ThreadUniversal, walked. -/
set_option linter.unusedVariables false
set_option linter.unusedSimpArgs false
namespace Go.Proofs.Ytagdbadljcongaa.X
open Go Go.RowKit Go.Proofs Go.Proofs.YtagdbadljcongaaW.PrintWords Go.Proofs.YtagdbadljcongaaW.PrintLast Go.Proofs.YtagdbadljcongaaW.PrintMore
theorem wi_some (u s : ByteArray) (w : World) (hu : isW (bl u) = true) (hs : isW (bl s) = true) (h : (wth (bl s) 0 (bl u)).isSome = true) : Calls Try.prog 32 #[.string u, .string s] w fun e w' => ∃ v, e = .returned (.tuple #[v, .int .i64 0]) ∧ Below w.heap.size w w' := by
  obtain ⟨r, hr⟩ := Option.isSome_iff_exists.1 h
  refine (within_ok u s w hu hs _ hr).mono ?_
  rintro e w' ⟨v, ⟨h1, _⟩, h2⟩
  exact ⟨v, h1, h2⟩
theorem wi_none (u s : ByteArray) (w : World) (hu : isW (bl u) = true) (hs : isW (bl s) = true) (h : wth (bl s) 0 (bl u) = none) : Calls Try.prog 32 #[.string u, .string s] w fun e w' => e = .returned (.tuple #[.slice none 0 0, .int .i64 6]) ∧ Below w.heap.size w w' := by
  refine (within_ok u s w hu hs _ h).mono ?_
  rintro e w' ⟨v, ⟨rfl, h1⟩, h2⟩
  exact ⟨h1, h2⟩
end Go.Proofs.Ytagdbadljcongaa.X
end

section
/- What the word that tells two words apart is, and words about them. -/
set_option linter.unusedVariables false
set_option linter.unusedSimpArgs false
namespace Go.Proofs.Ytagdbadljcongaa.X
open Go.RowKit Go.Proofs.YtagdbadljcongaaW.PrintWords
theorem wth_sub0 (l u : List Nat) : (wth l 0 u).isSome = true ↔ u.Sublist l := by
  have h := wth_sub l u 0 (Nat.zero_le _)
  rwa [List.drop_zero] at h
theorem dst_iff (u w x : List Nat) : dst u w x = false ↔ (x.Sublist u ↔ x.Sublist w) := by
  rw [← wth_sub0, ← wth_sub0]
  unfold dst
  cases (wth u 0 x).isSome <;> cases (wth w 0 x).isSome <;> simp
theorem First.less {u w r x : List Nat} {k most : Nat} (h : First u w k most r) (hk4 : k ≤ 4) (hx : Ltr k x) (hm : x.length ≤ most) (hl : x.length < r.length) : X.dst u w x = false := by
  cases e : X.dst u w x with
  | false => rfl
  | true =>
    have := key_len (h.ltr.four hk4) (hx.four hk4) (h.fst x hx hm e)
    omega
theorem ltr4 {u : List Nat} (h : ∀ b ∈ u, 97 ≤ b ∧ b ≤ 100) : Ltr 4 u := fun b hb => by have := h b hb; omega
theorem dst_ex {u w : List Nat} (hu : Ltr 4 u) (hw : Ltr 4 w) (hne : u ≠ w) : ∃ x, Ltr 4 x ∧ x.length ≤ 1 + min u.length w.length ∧ dst u w x = true := by
  have key : ∀ u w : List Nat, Ltr 4 u → Ltr 4 w → u ≠ w → u.length ≤ w.length → ∃ x, Ltr 4 x ∧ x.length ≤ 1 + u.length ∧ ¬ (x.Sublist u ↔ x.Sublist w) := by
    intro u w hu hw hne hl
    by_cases hs : u.Sublist w
    · refine ⟨w.take (u.length + 1), fun b hb => hw b (List.mem_of_mem_take hb), by rw [List.length_take]; omega, fun h => ?_⟩
      have h1 := (h.2 (List.take_sublist _ _)).length_le
      rw [List.length_take] at h1
      exact hne (hs.eq_of_length (by omega))
    · exact ⟨u, hu, by omega, fun h => hs (h.1 (List.Sublist.refl _))⟩
  rcases Nat.le_total u.length w.length with h | h
  · obtain ⟨x, h1, h2, h3⟩ := key u w hu hw hne h
    refine ⟨x, h1, by omega, ?_⟩
    rw [← Bool.not_eq_false, dst_iff]; exact h3
  · obtain ⟨x, h1, h2, h3⟩ := key w u hw hu hne.symm h
    refine ⟨x, h1, by omega, ?_⟩
    rw [← Bool.not_eq_false, dst_iff]; exact fun h => h3 h.symm
theorem First.len {u w r : List Nat} (h : First u w 4 61 r) (hu : Ltr 4 u) (hw : Ltr 4 w) (hl : min u.length w.length ≤ 60) (hne : u ≠ w) : r.length ≤ 1 + min u.length w.length := by
  obtain ⟨x, h1, h2, h3⟩ := dst_ex hu hw hne
  have := key_len h.ltr h1 (h.fst x h1 (by omega) h3)
  omega
end Go.Proofs.Ytagdbadljcongaa.X
end

section
/- thread.Minimal. -/
set_option linter.unusedVariables false
set_option linter.unusedSimpArgs false
namespace Go.Proofs.Ytagdbadljcongaa.X
open Go Go.RowKit Go.Proofs Go.Proofs.YtagdbadljcongaaW.PrintWords Go.Proofs.YtagdbadljcongaaW.PrintLast Go.Proofs.YtagdbadljcongaaW.PrintMore
def subB (t s : ByteArray) : Bool := (wth (bl s) 0 (bl t)).isSome
theorem subB_iff (t s : ByteArray) : subB t s = true ↔ (bl t).Sublist (bl s) := wth_sub0 _ _
set_option maxHeartbeats 2000000 in
set_option maxRecDepth 100000 in
theorem min_cl (t s : ByteArray) (gs : Nat) (w : World) (ht : isW (bl t) = true) (hs : isW (bl s) = true) (hc : w.cell? ⟨gs, 0, none⟩ = some (.string s)) (r : Bool) (hr : subB t s = r) : Calls Try.prog 64 #[.string t, .pointer (some ⟨gs, 0, none⟩)] w fun e w' => e = .returned (.bool r) ∧ Below w.heap.size w w' := by
  cases r with
  | true =>
    have WS := Aside0.mk (fun W => wi_some t s W ht hs hr)
    clear ht hs hr
    go_enter Try.func64, Try.ntmps64
    go_wp2_with (go_at_call 32; (with_reducible refine (WS.out _).mono ?_); rintro e w1 ⟨v, rfl, hb⟩; have HB := Aside0.mk hb; clear hb)
    go_ret
    exact ⟨rfl, HB.out⟩
  | false =>
    have WS := Aside0.mk (fun W => wi_none t s W ht hs (by
      cases h : wth (bl s) 0 (bl t) with
      | none => rfl
      | some x => unfold subB at hr; rw [h] at hr; cases hr))
    clear ht hs hr
    go_enter Try.func64, Try.ntmps64
    go_wp2_with (go_at_call 32; (with_reducible refine (WS.out _).mono ?_); rintro e w1 ⟨rfl, hb⟩; have HB := Aside0.mk hb; clear hb)
    go_ret
    exact ⟨rfl, HB.out⟩
def anyB (l : List ByteArray) (s : ByteArray) : Bool := l.any fun t => subB t s
set_option maxHeartbeats 4000000 in
set_option maxRecDepth 1000000 in
theorem min_idx (A : Option Addr) (c gs : Nat) (s : ByteArray) (l : List ByteArray) (w : World) (hC : Kd.C Kd.string w A l.length l) (hl : l.length ≤ 1000000) (hw : ∀ x ∈ l, isW (bl x) = true) (hs : isW (bl s) = true) (hc : w.cell? ⟨gs, 0, none⟩ = some (.string s)) :
    Calls Try.prog 77 #[.slice A l.length c, .func (.func 64) #[] #[.pointer (some ⟨gs, 0, none⟩)]] w fun e w' => ∃ r : Int, e = .returned (.int .i64 r) ∧ Aside0 (-1 ≤ r ∧ r ≤ 1000000 ∧ (0 ≤ r ↔ anyB l s = true)) ∧ Below w.heap.size w w' := by
  have HC := Aside0.mk hC
  have HL := Aside0.mk hl
  have HW := Aside0.mk hw
  have HS := Aside0.mk hs
  have HCS := Aside0.mk hc
  clear hC hl hw hs hc
  go_enter Try.func77, Try.ntmps77
  go_wp2
  go_loopw [8] (fun v8 wr => ∃ i : Nat, v8 = .int .i64 i ∧ i ≤ l.length ∧ Aside0 (Below w.heap.size w wr) ∧ Aside0 (∀ j, j < i → ∀ h : j < l.length, subB l[j] s = false)) (fun v8 _ => l.length - (intOf v8).toNat)
  case atStart => exact ⟨0, rfl, by omega, ⟨Below.refl _ _⟩, ⟨by omega⟩⟩
  case round =>
    obtain ⟨i, rfl, hi, HB, HAL⟩ := hrel
    by_cases hlt : i < l.length
    · have hltI : (i : Int) < (l.length : Int) := by omega
      have hi0 : (0 : Int) ≤ (i : Int) := by omega
      obtain ⟨t, ht⟩ : ∃ t, l[i] = t := ⟨_, rfl⟩
      obtain ⟨ad, e, hx⟩ := Kd.at_string (Kd.C_below HC.out HB.out) (i : Int) hi0 hltI
      cases e
      rw [rdOf_nat l i hlt, ht, Int.toNat_natCast] at hx
      obtain ⟨r, hr⟩ : ∃ r, subB t s = r := ⟨_, rfl⟩
      have HR := Aside0.mk hr
      have HT := Aside0.mk (show ∀ h : i < l.length, l[i] = t from fun _ => ht)
      have HTW := Aside0.mk (HW.out t (by rw [← ht]; exact List.getElem_mem _))
      have MC := Aside0.mk (fun r (hr : subB t s = r) => min_cl t s gs wr HTW.out HS.out (pw_cell_below HB.out HCS.out) r hr)
      have HLT := Aside0.mk hlt
      have hib : (i : Int) ≤ 1000000 := by have := HL.out; omega
      clear hlt ht hr
      cases r with
      | false =>
        go_wp2_with (go_at_call 64; (with_reducible refine (MC.out _ HR.out).mono ?_); rintro e w1 ⟨rfl, hb⟩; have HB1 := Aside0.mk (below_step HB.out hb); clear hb)
        go_roundw
        case rel => exact ⟨i + 1, by go_num, by have := HLT.out; omega, HB1, ⟨fun j hj h => by
          by_cases e : j = i
          · subst e; rw [HT.out h]; exact HR.out
          · exact HAL.out j (by omega) h⟩⟩
        case measure => simp [intOf]; have := HLT.out; omega
      | true =>
        go_wp2_with (go_at_call 64; (with_reducible refine (MC.out _ HR.out).mono ?_); rintro e w1 ⟨rfl, hb⟩; have HB1 := Aside0.mk (below_step HB.out hb); clear hb)
        go_ret
        refine ⟨_, rfl, ⟨by omega, hib, iff_of_true hi0 ?_⟩, HB1.out⟩
        exact List.any_eq_true.2 ⟨t, by rw [← HT.out HLT.out]; exact List.getElem_mem _, HR.out⟩
    · have hltI : ¬ ((i : Int) < (l.length : Int)) := by omega
      have HLT := Aside0.mk hlt
      clear hlt
      go_wp2
      go_ret
      refine ⟨_, rfl, ⟨by omega, by omega, iff_of_false (by omega) ?_⟩, HB.out⟩
      intro h
      obtain ⟨x, hx, h2⟩ := List.any_eq_true.1 h
      obtain ⟨j, hj, rfl⟩ := List.getElem_of_mem hx
      rw [HAL.out j (by have := HLT.out; omega) hj] at h2
      cases h2
set_option maxHeartbeats 2000000 in
set_option maxRecDepth 100000 in
theorem min_cont (A : Option Addr) (c gs : Nat) (s : ByteArray) (l : List ByteArray) (w : World) (hC : Kd.C Kd.string w A l.length l) (hl : l.length ≤ 1000000) (hw : ∀ x ∈ l, isW (bl x) = true) (hs : isW (bl s) = true) (hc : w.cell? ⟨gs, 0, none⟩ = some (.string s)) (r : Bool) (hr : anyB l s = r) :
    Calls Try.prog 63 #[.slice A l.length c, .func (.func 64) #[] #[.pointer (some ⟨gs, 0, none⟩)]] w fun e w' => e = .returned (.bool r) ∧ Below w.heap.size w w' := by
  have H := Aside0.mk (min_idx A c gs s l w hC hl hw hs hc)
  have HR := Aside0.mk hr
  clear hC hl hr hw hs hc
  cases r with
  | false =>
    go_enter Try.func63, Try.ntmps63
    go_wp2_with (go_at_call 77; (with_reducible refine H.out.mono ?_); rintro e w1 ⟨r, rfl, HR2, hb⟩; have HB := Aside0.mk hb; have hr0 : decide (0 ≤ r) = false := decide_eq_false (fun h => by have := HR2.out.2.2.1 h; rw [HR.out] at this; cases this); clear hb)
    go_ret
    exact ⟨rfl, HB.out⟩
  | true =>
    go_enter Try.func63, Try.ntmps63
    go_wp2_with (go_at_call 77; (with_reducible refine H.out.mono ?_); rintro e w1 ⟨r, rfl, HR2, hb⟩; have HB := Aside0.mk hb; have hr0 : decide (0 ≤ r) = true := decide_eq_true (HR2.out.2.2.2 HR.out); clear hb)
    go_ret
    exact ⟨rfl, HB.out⟩
/-- Minimal in a list. -/
def isMin (ws : List ByteArray) (x : ByteArray) : Prop := x ∈ ws ∧ ∀ t ∈ ws, (bl t).Sublist (bl x) → t = x
structure MinOk (ws ms : List ByteArray) : Prop where
  mem : ∀ x, x ∈ ms ↔ isMin ws x
  srt : ms.Pairwise (fun x y => key (bl x) < key (bl y))
theorem min_below (ws : List ByteArray) : ∀ (n : Nat) (t : ByteArray), t.size = n → t ∈ ws → ∃ m, isMin ws m ∧ (bl m).Sublist (bl t) := by
  intro n
  induction n using Nat.strongRecOn with
  | _ n ih =>
    intro t hn ht
    by_cases h : ∀ u ∈ ws, (bl u).Sublist (bl t) → u = t
    · exact ⟨t, ⟨ht, h⟩, List.Sublist.refl _⟩
    · simp only [Classical.not_forall] at h
      obtain ⟨u, hu, hs, hne⟩ := h
      have hl := hs.length_le
      rw [bl_length, bl_length] at hl
      have hlt : u.size < n := by
        rcases Nat.lt_or_ge u.size n with h | h
        · exact h
        · exact absurd (bl_inj (hs.eq_of_length_le (by rw [bl_length, bl_length]; omega))) hne
      obtain ⟨m, h1, h2⟩ := ih _ hlt u rfl hu
      exact ⟨m, h1, h2.trans hs⟩
/-- What the loop holds ahead of place i of the sorted list. -/
structure MinTo (ws ds : List ByteArray) (i : Nat) (ms : List ByteArray) : Prop where
  mem : ∀ x, x ∈ ms ↔ isMin ws x ∧ ∃ j, ∃ h : j < ds.length, j < i ∧ ds[j] = x
  srt : ms.Pairwise (fun x y => key (bl x) < key (bl y))
theorem MinTo.start (ws ds : List ByteArray) : MinTo ws ds 0 [] := ⟨fun x => by simp, List.Pairwise.nil⟩
theorem MinTo.skip {ws ds ms : List ByteArray} {i : Nat} (h : MinTo ws ds i ms) (hc : Cpt ws ds) (hi : i < ds.length) (ha : anyB ms ds[i] = true) : MinTo ws ds (i + 1) ms := by
  refine ⟨fun x => (h.mem x).trans ⟨fun ⟨a, j, b, c, d⟩ => ⟨a, j, b, by omega, d⟩, fun ⟨a, j, b, c, d⟩ => ?_⟩, h.srt⟩
  by_cases e : j = i
  · exfalso
    subst e
    obtain ⟨t, ht, hs⟩ := List.any_eq_true.1 ha
    obtain ⟨m1, j2, b2, c2, d2⟩ := (h.mem t).1 ht
    have he := a.2 t m1.1 (by rw [← d]; exact (subB_iff _ _).1 hs)
    have := List.pairwise_iff_getElem.1 hc.srt j2 j b2 hi c2
    rw [d2, d, he] at this
    omega
  · exact ⟨a, j, b, by omega, d⟩
theorem MinTo.keep {ws ds ms : List ByteArray} {i : Nat} (h : MinTo ws ds i ms) (hc : Cpt ws ds) (hw : ∀ x ∈ ws, Ltr 4 (bl x)) (hi : i < ds.length) (ha : anyB ms ds[i] = false) : MinTo ws ds (i + 1) (ms ++ [ds[i]]) := by
  have hmem : ds[i] ∈ ws := (hc.mem _).1 (List.getElem_mem hi)
  have hmin : isMin ws ds[i] := by
    refine ⟨hmem, fun t ht hs => ?_⟩
    obtain ⟨m, h1, h2⟩ := min_below ws _ t rfl ht
    by_cases e : m = ds[i]
    · subst e
      exact (bl_inj (h2.eq_of_length_le hs.length_le)).symm
    · exfalso
      have hms := h2.trans hs
      have hlen : (bl m).length < (bl ds[i]).length := by
        rcases Nat.lt_or_ge (bl m).length (bl ds[i]).length with h | h
        · exact h
        · exact absurd (bl_inj (hms.eq_of_length_le h)) e
      have hk : key (bl m) < key (bl ds[i]) := by
        rcases Nat.lt_or_ge (key (bl m)) (key (bl ds[i])) with h | h
        · exact h
        · have := key_len (hw _ hmem) (hw _ h1.1) h
          omega
      obtain ⟨j, hj, rfl⟩ := List.getElem_of_mem ((hc.mem m).2 h1.1)
      have hji : j < i := by
        rcases Nat.lt_or_ge j i with h | h
        · exact h
        · exfalso
          by_cases e2 : i = j
          · subst e2; omega
          · have := List.pairwise_iff_getElem.1 hc.srt i j hi hj (by omega)
            omega
      have : anyB ms ds[i] = true := List.any_eq_true.2 ⟨ds[j], (h.mem _).2 ⟨h1, j, hj, hji, rfl⟩, (subB_iff _ _).2 hms⟩
      rw [ha] at this
      cases this
  refine ⟨fun x => ?_, ?_⟩
  · rw [List.mem_append, List.mem_singleton, h.mem]
    constructor
    · rintro (⟨a, j, b, c, d⟩ | rfl)
      · exact ⟨a, j, b, by omega, d⟩
      · exact ⟨hmin, i, hi, by omega, rfl⟩
    · rintro ⟨a, j, b, c, d⟩
      by_cases e : j = i
      · subst e; exact .inr d.symm
      · exact .inl ⟨a, j, b, by omega, d⟩
  · rw [List.pairwise_append]
    refine ⟨h.srt, by simp, fun a ha2 b hb => ?_⟩
    rw [List.mem_singleton] at hb
    subst hb
    obtain ⟨_, j, hj, hji, rfl⟩ := (h.mem a).1 ha2
    exact List.pairwise_iff_getElem.1 hc.srt j i hj hi hji
theorem MinTo.done {ws ds ms : List ByteArray} (h : MinTo ws ds ds.length ms) (hc : Cpt ws ds) : MinOk ws ms := by
  refine ⟨fun x => (h.mem x).trans ⟨fun a => a.1, fun a => ⟨a, ?_⟩⟩, h.srt⟩
  obtain ⟨j, hj, e⟩ := List.getElem_of_mem ((hc.mem x).2 a.1)
  exact ⟨j, hj, hj, e⟩
/-- There is one such list. -/
theorem sorted_ext : ∀ (a b : List ByteArray), a.Pairwise (fun x y => key (bl x) < key (bl y)) → b.Pairwise (fun x y => key (bl x) < key (bl y)) → (∀ x, x ∈ a ↔ x ∈ b) → a = b
  | [], [], _, _, _ => rfl
  | [], y :: b, _, _, h => by have := (h y).2 (by simp); cases this
  | x :: a, [], _, _, h => by have := (h x).1 (by simp); cases this
  | x :: a, y :: b, ha, hb, h => by
    obtain ⟨a1, a2⟩ := List.pairwise_cons.1 ha
    obtain ⟨b1, b2⟩ := List.pairwise_cons.1 hb
    have hxy : x = y := by
      rcases List.mem_cons.1 ((h x).1 (by simp)) with h1 | h1
      · exact h1
      · rcases List.mem_cons.1 ((h y).2 (by simp)) with h2 | h2
        · exact h2.symm
        · have := a1 y h2; have := b1 x h1; omega
    subst hxy
    rw [sorted_ext a b a2 b2 (fun z => ?_)]
    have hz := h z
    simp only [List.mem_cons] at hz
    constructor
    · intro h1
      rcases hz.1 (.inr h1) with rfl | h2
      · have := a1 _ h1; omega
      · exact h2
    · intro h1
      rcases hz.2 (.inr h1) with rfl | h2
      · have := b1 _ h1; omega
      · exact h2
theorem MinOk.eq {ws a b : List ByteArray} (ha : MinOk ws a) (hb : MinOk ws b) : a = b := sorted_ext a b ha.srt hb.srt fun x => (ha.mem x).trans (hb.mem x).symm
theorem MinOk.len {ws ds ms : List ByteArray} {i : Nat} (h : MinTo ws ds i ms) (hi : i ≤ ds.length) : ms.length ≤ i := by
  have h1 := nodup_le (ms.map fun x => key (bl x)) ((List.range i).map fun j => key (bl (ds.getD j ByteArray.empty))) (by
    rw [List.pairwise_map]
    exact h.srt.imp fun {a b} h => by omega) (fun k hk => by
    obtain ⟨x, hx, rfl⟩ := List.mem_map.1 hk
    obtain ⟨_, j, hj, hji, rfl⟩ := (h.mem x).1 hx
    exact List.mem_map.2 ⟨j, List.mem_range.2 hji, by simp [List.getD_eq_getElem?_getD, hj]⟩)
  simpa using h1
set_option maxHeartbeats 8000000 in
set_option maxRecDepth 1000000 in
theorem minimal_ok (ws : List ByteArray) (A : Option Addr) (c : Nat) (w : World) (hl : ws.length ≤ 4) (hf : famB ws = true) (hA : ∀ a, A = some a → a.spot = none) (hC : Kd.C Kd.string w A ws.length ws) :
    Calls Try.prog 42 #[.slice A ws.length c] w fun e w' => ∃ B d ms, e = .returned (.tuple #[.slice B ms.length d, .int .i64 0]) ∧ Aside0 (MinOk ws ms) ∧ Aside0 (Kd.R Kd.string 9 w' w.heap.size (fun _ => True) (.slice B ms.length d) ms) ∧ Below w.heap.size w w' := by
  have hfam : ∀ x ∈ ws, isW (bl x) = true ∧ x.size ≤ 8 := fun x hx => by
    have := List.all_eq_true.1 hf x hx
    unfold fam1 at this
    rw [Bool.and_eq_true] at this
    exact ⟨this.1, of_decide_eq_true this.2⟩
  have HF := Aside0.mk hfam
  have HL := Aside0.mk hl
  have HCW := Aside0.mk hC
  have HLW := Aside0.mk (show ∀ x ∈ ws, Ltr 4 (bl x) ∧ x.size ≤ 60 from fun x hx => ⟨ltr4 ((isW_iff _).1 (hfam x hx).1).2, by have := (hfam x hx).2; omega⟩)
  have FA := Aside0.mk (fam_any A c ws w hC (by omega) true (by rw [hf, decide_eq_true hl]; rfl))
  have CL := Aside0.mk (fun (W : World) (hb : Below w.heap.size w W) => clone_any ws A c W (by omega) hA (Kd.C_below hC hb))
  clear hl hf hA hC hfam
  go_enter Try.func42, Try.ntmps42
  go_upto_region 6 with (first | (go_at_call 58; (with_reducible refine FA.out.mono ?_); rintro e w1 ⟨rfl, hb⟩; have HB1 := Aside0.mk hb; clear hb) | (go_at_call 59; (with_reducible refine (CL.out _ HB1.out).mono ?_); rintro e w2 ⟨B, d, rfl, HR2, hb⟩; have HB2 := Aside0.mk hb; clear hb) | (go_at_call 60; (with_reducible refine (sort_any ws B d w1.heap.size w1 _ HL.out HLW.out HR2.out HB2.out HB2.out.size).mono ?_); rintro e w3 ⟨zs, rfl, HZ, HR3, hb⟩; have HB3 := Aside0.mk hb; clear hb))
  have HZL := Aside0.mk (show zs.length = ws.length from HZ.out.1.length_eq)
  have HZM := Aside0.mk (show ∀ x, x ∈ zs ↔ x ∈ ws from fun x => HZ.out.1.mem_iff)
  have CP := Aside0.mk (show Calls Try.prog 62 #[.slice B ws.length d] w3 fun e w' => ∃ ds, e = .returned (.slice B ds.length d) ∧ Aside0 (Cpt zs ds ∧ ds.length ≤ zs.length) ∧ Aside0 (Kd.C Kd.string w' B ds.length ds) ∧ Below w1.heap.size w1 w' ∧ w3.heap.size ≤ w'.heap.size by
    have h := compact_any zs B d w1.heap.size w1 w3 (by rw [HZL.out]; have := HL.out; omega) (fun x hx => (HLW.out x ((HZM.out x).1 hx)).1) (by rw [HZL.out]; exact HZ.out.2) (by rw [HZL.out]; exact HR3.out) HB3.out.1
    rw [HZL.out] at h ⊢
    exact h)
  clear FA CL HR2 HB2
  go_wp2_with (go_at_call 62; (with_reducible refine CP.out.mono ?_); rintro e w4 ⟨ds, rfl, HD, HDC, hb⟩; have HB4 := Aside0.mk (below_then HB1.out HB1.out.size hb.1); clear hb)
  have HCP := Aside0.mk (show Cpt ws ds from ⟨fun x => (HD.out.1.mem x).trans (HZM.out x), HD.out.1.srt⟩)
  have hd4 : ds.length ≤ 4 := by have := HD.out.2; have := HZL.out; have := HL.out; omega
  have HD4 := Aside0.mk hd4
  clear CP HR3 HB3 HZ HD hd4
  go_loopw [5, 7, 18] (fun v5 v7 v18 wr => ∃ (i : Nat) (A2 : Option Addr) (c2 : Nat) (ms : List ByteArray), v18 = .int .i64 i ∧ v5 = .slice A2 ms.length c2 ∧ i ≤ ds.length ∧ Aside0 (MinTo ws ds i ms) ∧ Aside0 (Kd.R Kd.string 9 wr w4.heap.size (fun _ => True) (.slice A2 ms.length c2) ms) ∧ Aside0 (Below w4.heap.size w4 wr)) (fun _ _ v18 _ => ds.length - (intOf v18).toNat)
  case atStart => exact ⟨0, none, 0, [], rfl, rfl, Nat.zero_le _, ⟨MinTo.start _ _⟩, ⟨Kd.R_nil _ _ _ _ _⟩, ⟨Below.refl _ _⟩⟩
  case round =>
    obtain ⟨i, A2, c2, ms, rfl, rfl, hi, HM, HR, HB⟩ := hrel
    by_cases hlt : i < ds.length
    · have hltI : (i : Int) < (ds.length : Int) := by omega
      have hi0 : (0 : Int) ≤ (i : Int) := by omega
      have HLT := Aside0.mk hlt
      have hi5 : (i : Int) < 5 := by have := HD4.out; omega
      obtain ⟨s, hs⟩ : ∃ s, ds[i] = s := ⟨_, rfl⟩
      have HS := Aside0.mk (show ∀ h : i < ds.length, ds[i] = s from fun _ => hs)
      obtain ⟨ad, e, hx⟩ := Kd.at_string (Kd.C_below HDC.out HB.out) (i : Int) hi0 hltI
      cases e
      rw [rdOf_nat ds i hlt, hs, Int.toNat_natCast] at hx
      have HSW := Aside0.mk (HF.out s ((HCP.out.mem s).1 (by rw [← hs]; exact List.getElem_mem _))).1
      have HML := Aside0.mk (MinOk.len HM.out hi)
      have HBX := Aside0.mk (show Below w4.heap.size w4 (wr.alloc (.cells #[.string s] 9)) from below_alloc HB.out _)
      have HRX := Aside0.mk (Kd.R_below HR.out (below_alloc (Below.refl wr.heap.size wr) (.cells #[.string s] 9)))
      have hcs : (wr.alloc (.cells #[.string s] 9)).cell? ⟨wr.heap.size, 0, none⟩ = some (.string s) := (blk_cell (blk_new wr _) 0).trans rfl
      have HCS := Aside0.mk hcs
      have HMW := Aside0.mk (show ∀ x ∈ ms, isW (bl x) = true from fun x hx => (HF.out x ((HM.out.mem x).1 hx).1.1).1)
      obtain ⟨r, hr⟩ : ∃ r, anyB ms s = r := ⟨_, rfl⟩
      have HRR := Aside0.mk hr
      have MC := Aside0.mk (fun r (hr : anyB ms s = r) => min_cont A2 c2 wr.heap.size s ms (wr.alloc (.cells #[.string s] 9)) (Kd.R_reads' HRX.out).2.2 (by have := HML.out; have := HD4.out; omega) HMW.out HSW.out HCS.out r hr)
      clear hlt hs hr hi hcs
      cases r with
      | true =>
        go_wp2_with (go_at_call 63; (with_reducible refine (MC.out _ HRR.out).mono ?_); rintro e w5 ⟨rfl, hb⟩; have HB5 := Aside0.mk hb; clear hb)
        go_roundw
        case rel => exact ⟨i + 1, A2, c2, ms, by go_num, rfl, by have := HLT.out; omega, ⟨HM.out.skip HCP.out HLT.out (by rw [HS.out HLT.out]; exact HRR.out)⟩, ⟨Kd.R_below HRX.out HB5.out⟩, ⟨below_step HBX.out HB5.out⟩⟩
        case measure => simp [intOf]; have := HLT.out; omega
      | false =>
        go_upto_region 10 with (go_at_call 63; (with_reducible refine (MC.out _ HRR.out).mono ?_); rintro e w5 ⟨rfl, hb⟩; have HB5 := Aside0.mk hb; clear hb)
        have HR5 := Aside0.mk (Kd.R_below HRX.out HB5.out)
        have HB6 := Aside0.mk (below_step HBX.out HB5.out)
        have hc5 : w5.cell? ⟨wr.heap.size, 0, none⟩ = some (.string s) := pw_cell_below HB5.out HCS.out
        have KEY := Aside0.mk (app_str (x := s) HR5.out HB6.out HB6.out.size (fun _ _ => trivial) (by have := HML.out; have := HD4.out; omega) 26 28)
        go_wp2_with (at_builtin; refine KEY.out _ _ _ _ _ rfl rfl rfl rfl ?_; intro A3 c3 w6 hr3 hb3 hg3 hat3; have HR7 := Aside0.mk hr3; have HB7 := Aside0.mk hb3; clear hr3 hb3 hg3 hat3)
        go_roundw
        case rel => exact ⟨i + 1, A3, c3, ms ++ [s], by go_num, by rw [List.length_append]; rfl, by have := HLT.out; omega, ⟨by
          have h := HM.out.keep HCP.out (fun x hx => (HLW.out x hx).1) HLT.out (by rw [HS.out HLT.out]; exact HRR.out)
          rw [HS.out HLT.out] at h
          exact h⟩, ⟨by rw [List.length_append]; exact HR7.out⟩, HB7⟩
        case measure => simp [intOf]; have := HLT.out; omega
    · have hltI : ¬ ((i : Int) < (ds.length : Int)) := by omega
      obtain rfl : i = ds.length := by omega
      clear hlt hi
      go_wp2
      go_ret2
      exact ⟨A2, c2, ms, rfl, ⟨HM.out.done HCP.out⟩, ⟨Kd.R_lower HR.out HB4.out.size⟩, below_then HB4.out HB4.out.size HB.out⟩
end Go.Proofs.Ytagdbadljcongaa.X
end

section
/- What the laws of families want of minimal words. -/
set_option linter.unusedVariables false
set_option linter.unusedSimpArgs false
namespace Go.Proofs.Ytagdbadljcongaa.X
open Go Go.RowKit Go.Proofs Go.Proofs.YtagdbadljcongaaW.PrintWords Go.Proofs.YtagdbadljcongaaW.PrintLast Go.Proofs.YtagdbadljcongaaW.PrintMore
theorem spot_of {d : Kd ByteArray} {e : Nat} {w : World} {base : Nat} {ok : Nat → Prop} {A : Option Addr} {n c : Nat} {xs : List ByteArray} (h : Kd.R d e w base ok (.slice A n c) xs) (h0 : xs.length = 0 → A = none) : ∀ a, A = some a → a.spot = none := by
  intro a ha
  rcases Nat.eq_zero_or_pos xs.length with h1 | h1
  · rw [h0 h1] at ha; cases ha
  · obtain ⟨g, cap, he, _⟩ := Kd.R_form h h1
    injection he with e1
    rw [ha] at e1
    injection e1 with e1
    rw [e1]
theorem MinOk.len4 {ws ms : List ByteArray} (h : MinOk ws ms) : ms.length ≤ ws.length := by
  have h1 := nodup_le (ms.map bl) (ws.map bl) (by
    rw [List.pairwise_map]
    exact h.srt.imp fun {a b} h e => by rw [e] at h; omega) (fun k hk => by
    obtain ⟨x, hx, rfl⟩ := List.mem_map.1 hk
    exact List.mem_map.2 ⟨x, ((h.mem x).1 hx).1, rfl⟩)
  simpa using h1
theorem MinOk.fam {ws ms : List ByteArray} (h : MinOk ws ms) (hf : famB ws = true) : famB ms = true :=
  List.all_eq_true.2 fun x hx => List.all_eq_true.1 hf x ((h.mem x).1 hx).1
theorem fam8 {ws : List ByteArray} (hf : famB ws = true) : ∀ u ∈ ws.map bl, u.length ≤ 8 := fun u hu => by
  obtain ⟨x, hx, rfl⟩ := List.mem_map.1 hu
  have := List.all_eq_true.1 hf x hx
  unfold fam1 at this
  rw [Bool.and_eq_true] at this
  rw [bl_length]
  exact of_decide_eq_true this.2
theorem MinOk.free {ws ms : List ByteArray} (h : MinOk ws ms) (h4 : ws.length ≤ 4) (hf : famB ws = true) (k n : Nat) : freeL (ms.map bl) k n = freeL (ws.map bl) k n := by
  have := h.len4
  refine free_same (by rw [List.length_map]; omega) (fam8 (h.fam hf)) (by rw [List.length_map]; omega) (fam8 hf) (fun x => ⟨fun h1 u hu hs => ?_, fun h1 u hu hs => ?_⟩) k n
  · obtain ⟨t, ht, rfl⟩ := List.mem_map.1 hu
    obtain ⟨m, hm, hs2⟩ := min_below ws _ t rfl ht
    exact h1 (bl m) (List.mem_map.2 ⟨m, (h.mem m).2 hm, rfl⟩) (hs2.trans hs)
  · obtain ⟨t, ht, rfl⟩ := List.mem_map.1 hu
    exact h1 (bl t) (List.mem_map.2 ⟨t, ((h.mem t).1 ht).1, rfl⟩) hs
theorem MinOk.pos {ws ms : List ByteArray} (h : MinOk ws ms) (h0 : 0 < ws.length) : 0 < ms.length := by
  obtain ⟨m, hm, _⟩ := min_below ws _ ws[0] rfl (List.getElem_mem h0)
  exact List.length_pos_of_mem ((h.mem m).2 hm)
theorem MinOk.apart {ws ms : List ByteArray} (h : MinOk ws ms) (i j : Nat) (hi : i < ms.length) (hj : j < ms.length) (hne : i ≠ j) : (wth (bl ms[i]) 0 (bl ms[j])) = none := by
  cases e : wth (bl ms[i]) 0 (bl ms[j]) with
  | none => rfl
  | some x =>
    exfalso
    have hs := (wth_sub0 (bl ms[i]) (bl ms[j])).1 (by rw [e]; rfl)
    have h1 := ((h.mem _).1 (List.getElem_mem hi)).2 _ ((h.mem _).1 (List.getElem_mem hj)).1 hs
    rcases Nat.lt_or_gt_of_ne hne with h2 | h2
    · have := List.pairwise_iff_getElem.1 h.srt i j hi hj h2
      rw [h1] at this; omega
    · have := List.pairwise_iff_getElem.1 h.srt j i hj hi h2
      rw [h1] at this; omega
/-- At most four words of six letters. -/
structure Fam6 (ls : List ByteArray) : Prop where
  len : ls.length ≤ 4
  tm : ∀ t ∈ ls, Tame t 6 4
theorem Fam6.nil : Fam6 [] := ⟨by simp, by simp⟩
theorem Fam6.snoc {ls : List ByteArray} (h : Fam6 ls) {t : ByteArray} (ht : Tame t 6 4) (hl : ls.length < 4) : Fam6 (ls ++ [t]) := ⟨by rw [List.length_append]; simp; omega, fun x hx => by
  rcases List.mem_append.1 hx with h1 | h1
  · exact h.tm x h1
  · rw [List.mem_singleton] at h1; subst h1; exact ht⟩
theorem Fam6.isW {ls : List ByteArray} (h : Fam6 ls) : ∀ t ∈ ls, X.isW (bl t) = true := fun t ht => (h.tm t ht).isW (by decide) (by decide)
theorem Fam6.fam {ls : List ByteArray} (h : Fam6 ls) : famB ls = true := List.all_eq_true.2 fun t ht => by
  unfold fam1
  rw [h.isW t ht, Bool.true_and, decide_eq_true_iff]
  have := (h.tm t ht).size
  omega
end Go.Proofs.Ytagdbadljcongaa.X
end

section
namespace Go.Proofs.Ytagdbadljcongaa.X
open Go.RowKit Go.Proofs.YtagdbadljcongaaW.PrintWords Go.Proofs.YtagdbadljcongaaW.PrintLast Go.Proofs.YtagdbadljcongaaW.PrintMore
attribute [local go_sem] max2_int min2_int max_two min_two max_three min_three max_four min_four   -- for this text's walks alone
set_option linter.unusedVariables false
set_option linter.unusedSimpArgs false

def tickingref03_Less.f (a0 : ByteArray) (a1 : ByteArray) : Option (Bool) := if (a0.size : Int) = (a1.size : Int) then (some (Op.bytesLess a0.toList a1.toList)) else (some (decide ((a0.size : Int) < (a1.size : Int))))
set_option maxHeartbeats 8000000 in
set_option maxRecDepth 100000 in
theorem tickingref03_Less.calls (a0 : ByteArray) (a1 : ByteArray) (r : Bool) (w : World) (h : tickingref03_Less.f a0 a1 = some r) :
  Calls Try.prog 67 #[.string a0, .string a1] w fun e w' => e = .returned (.bool r) ∧ Drawn0 w w' := by
 have H : (if (a0.size : Int) = (a1.size : Int) then (some (Op.bytesLess a0.toList a1.toList)) else (some (decide ((a0.size : Int) < (a1.size : Int))))) = some r := h
 clear h
 by_cases c3 : (a0.size : Int) = (a1.size : Int)
 ·rw [if_pos c3] at H
  have c3b0 : ((a0.size : Int) == (a1.size : Int)) = true := beq_iff_eq.mpr c3
  have c3b1 : ((a0.size : Int) != (a1.size : Int)) = false := bne_eq_false_iff_eq.mpr c3
  have c3b2 : (a0.size == a1.size) = true := by first | simpa using c3 | (simp at c3 ⊢; omega)
  clear c3
  obtain rfl := Option.some.inj H
  go_enter Try.func67, Try.ntmps67
  go_wp2
  go_ret
  exact ⟨by first | rfl | (simp; done) | (simp [*]; done), by repeat (first | exact Drawn0.refl _ | apply Drawn0.step)⟩
 ·rw [if_neg c3] at H
  have c3b0 : ((a0.size : Int) == (a1.size : Int)) = false := beq_eq_false_iff_ne.mpr c3
  have c3b1 : ((a0.size : Int) != (a1.size : Int)) = true := bne_iff_ne.mpr c3
  have c3b2 : (a0.size == a1.size) = false := by first | simpa using c3 | (simp at c3 ⊢; omega)
  obtain rfl := Option.some.inj H
  go_enter Try.func67, Try.ntmps67
  go_wp2
  go_ret
  exact ⟨by first | rfl | (simp; done) | (simp [*]; done), by repeat (first | exact Drawn0.refl _ | apply Drawn0.step)⟩

end Go.Proofs.Ytagdbadljcongaa.X
end
