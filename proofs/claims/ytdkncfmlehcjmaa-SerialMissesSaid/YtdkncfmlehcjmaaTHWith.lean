/- serial.number.with, by hand: a copy of the number with other digits from a position on, in new memory. -/
import Derived.Test.YtdkncfmlehcjmaaTX0
import Derived.Lib.SliceRun
set_option linter.unusedVariables false
set_option linter.unusedSimpArgs false
namespace Go.Proofs.Ytdkncfmlehcjmaa.X
open Go.RowKit Go.Proofs.YtdkncfmlehcjmaaW.PrintWords Go.Proofs.YtdkncfmlehcjmaaW.PrintLast Go.Proofs.YtdkncfmlehcjmaaW.PrintMore
theorem R_made0n (w : World) (base : Nat) (hb : base ≤ w.heap.size) : Kd.R (Kd.int .i64) 3 (w.alloc (.cells #[] 3)) base (fun _ => True) (.slice (some ⟨w.heap.size, 0, none⟩) 0 0) [] :=
  ⟨fun _ _ => trivial, [], World.ownsRow_made w #[] 0 hb (Nat.zero_le _) rfl, Reps.none _ _⟩
set_option maxHeartbeats 2000000 in
set_option maxRecDepth 100000 in
theorem cloneN_some (A : Addr) (c : Nat) (l : List Int) (w : World) (hr : Kd.C (Kd.int .i64) w (some A) l.length l) (hn : l.length ≤ 1000000) :
    Calls Try.prog 82 #[.slice (some A) l.length c] w fun e w' => ∃ v0_ : Value, e = .returned (v0_) ∧ Kd.R (Kd.int .i64) 3 w' w.heap.size (fun _ => True) v0_ l ∧ Below w.heap.size w w' := by
  have HR := Aside0.mk hr
  have HB := Aside0.mk (Below.refl w.heap.size w)
  have HN := Aside0.mk hn
  clear hr hn
  have q94 : ∀ (w : World) (a : Option Addr) (n c n' c' : Nat), (binOp .eql 94 (.slice a n c) (.slice none n' c')).run Try.prog w = .ok (.bool a.isNone) w := fun w a n c n' c' => Lib.run_eql_slice_nil w _ _ a n c n' c' Try.underlying94
  go_enter Try.func82, Try.ntmps82
  go_wp2_with (at_builtin; go_loud (refine Kd.R_append_rows (Kd.int .i64) (w0 := w) w.heap.size rfl (.tmp 5) (.tmp 6) 94 3 (.int .i64 0) 8 rfl Try.underlying94 info3 rfl (by decide) (by omega) (.slice (some ⟨w.heap.size, 0, none⟩) 0 0) ([] : List Int) l _ _ _ (fun _ => True) (fun _ => False) rfl rfl ?aO ?aR (fun _ _ h => h) (fun _ h => h.elim) ?aF ?aB ?aS ?aL ?_); go_loud (case aO => exact R_made0n w _ (Nat.le_refl _)); go_loud (case aR => exact Kd.C_alloc HR.out _); go_loud (case aF => exact fun _ _ => trivial); go_loud (case aB => exact below_alloc HB.out _); go_loud (case aS => first | exact Nat.le_refl _ | exact (below_alloc HB.out _).size); go_loud (case aL => have := HN.out; simp; omega); intro v103 w7 ho hb hg hat; have HO := Aside0.mk ho; have HB2 := Aside0.mk hb; clear ho hb hg hat)
  go_ret
  exact ⟨_, rfl, HO.out, HB2.out⟩
set_option maxHeartbeats 2000000 in
theorem cloneN_nil (c : Nat) (w : World) :
    Calls Try.prog 82 #[.slice none 0 c] w fun e w' => e = .returned (.slice none 0 0) ∧ w = w' := by
  have q94 : ∀ (w : World) (a : Option Addr) (n c n' c' : Nat), (binOp .eql 94 (.slice a n c) (.slice none n' c')).run Try.prog w = .ok (.bool a.isNone) w := fun w a n c n' c' => Lib.run_eql_slice_nil w _ _ a n c n' c' Try.underlying94
  go_enter Try.func82, Try.ntmps82
  go_wp2
  go_ret
  exact ⟨rfl, rfl⟩
theorem cloneN_calls (A : Option Addr) (c : Nat) (l : List Int) (w : World) (hr : Kd.C (Kd.int .i64) w A l.length l) (hA : A = none → l = []) (hn : l.length ≤ 1000000) :
    Calls Try.prog 82 #[.slice A l.length c] w fun e w' => ∃ v0_ : Value, e = .returned (v0_) ∧ Kd.R (Kd.int .i64) 3 w' w.heap.size (fun _ => True) v0_ l ∧ Below w.heap.size w w' := by
  cases A with
  | none =>
    obtain rfl := hA rfl
    exact (cloneN_nil c w).mono fun e w' ⟨h1, h2⟩ => ⟨_, h1, Kd.R_nil _ _ _ _ _, by rw [← h2]; exact Below.refl _ _⟩
  | some a => exact cloneN_some a c l w hr hn
theorem take_splice {α : Type} (L E : List α) (a m n : Nat) (hm : E.length = m) (h : a + m ≤ n) (hn : n ≤ L.length) : (L.take a ++ (E ++ L.drop (a + m))).take n = (L.take n).take a ++ (E ++ (L.take n).drop (a + m)) := by
  apply List.ext_getElem?
  intro i
  simp only [List.getElem?_take, List.getElem?_append, List.getElem?_drop, List.length_take, hm]
  split <;> rename_i h1
  · by_cases h2 : i < min a L.length
    · have h3 : i < min a (min n L.length) := by omega
      have h4 : i < a := by omega
      simp [h2, h3, h4, h1]
    · have h3 : ¬ i < min a (min n L.length) := by omega
      simp only [h2, h3, if_false]
      have e : min a L.length = min a (min n L.length) := by omega
      rw [← e]
      split
      · rfl
      · rw [if_pos (by omega)]
  · have h3 : ¬ i < min a (min n L.length) := by omega
    rw [if_neg h3, if_neg (by omega), if_neg (by omega)]
namespace Kd
open Go.Proofs.YtdkncfmlehcjmaaW.PrintWords.Kd
section
variable {P : Program} {ops : Array Oper} {rest : List Oper} {o : Oper} {a : Act} {Q : Exit → Act → World → Prop} {α : Type}
/-- copy(v[at:], ys), v a row of scalars of one's own, ys fitting in. -/
theorem R_copy_at {enc : α → Value} {h1 : ∀ x, (enc x).oneCell' = true} (d : α) {w0 W : World} (base : Nat) (hgd : o.guard = none) (s x : Operand) (t t' e : TypeId)
    (ho : o.op = .call { callee := .builtin .copy, args := #[s, x], argTypes := #[t, t'] }) (ht : P.underlying t = some (.slice e)) (hinfo : (P.info? e).map (·.size) = some 1)
    (g cap at_ dl dc : Nat) (xs ys : List α) (A : Option Addr) (m c : Nat) (ok : Nat → Prop) (hs : a.eval s = .slice (some ⟨g, at_, none⟩) dl dc) (hx : a.eval x = .slice A m c)
    (HO : Kd.R (scalar enc h1) e W base ok (.slice (some ⟨g, 0, none⟩) xs.length cap) xs) (HR : Kd.C (scalar enc h1) W A m ys) (HB : Below base w0 W) (hbase : base ≤ W.heap.size)
    (hp : 0 < m) (hfit : at_ + m ≤ xs.length) (hdl : m ≤ dl)
    (h : ∀ w1, Kd.R (scalar enc h1) e w1 base ok (.slice (some ⟨g, 0, none⟩) xs.length cap) (xs.take at_ ++ (ys ++ xs.drop (at_ + m))) → Below base w0 w1 → wpList P ops Q rest (a.put o.dst (.int .i64 (m : Int))) w1) :
    wpList P ops Q (o :: rest) a W := by
  have hR := reads_of_C (enc := enc) (d := d) (h1 := h1) HR
  have hm : ys.length = m := hR.1
  have hown := own_of_R HO
  obtain ⟨ad, hA, hc⟩ := hR.2.2 (by omega)
  rcases hown.2 with ⟨hv0, hx0⟩ | ⟨g', cap', cur, hv, hb, hh, hnc, hcm, hcs, htake⟩
  · omega
  injection hv with hv1 hv2 hv3
  injection hv1 with hv1
  injection hv1 with hv1 _ _
  subst hv1 hv3
  have hcs1 : cur.size = cap := by omega
  have hsrc : ∀ j u, (encs enc ys)[j]? = some u → W.cell? (ad.add j) = some u := by
    intro j u hu
    have hj : j < ys.length := by
      rcases Nat.lt_or_ge j ys.length with h | h
      · exact h
      · rw [List.getElem?_eq_none (by rw [encs_length]; exact h)] at hu
        cases hu
    rw [encs_get (d := d) _ j hj] at hu
    rw [hc j (by omega), ← hu]
  have hkl : (encs enc ys).length = m := by rw [encs_length]; omega
  have hr := run_copy_cells (P := P) W t t' o.type e g at_ dl dc ad m c (encs enc ys) ht hinfo (by rw [hkl]; exact (Nat.min_eq_left hdl).symm) hsrc
      (fun j hj => by rw [cell_of_row W g _ cur e (0, 0) hh]; simp; omega) (fun j _ => blk_frozen hh _) (by intro u hu; simp only [encs, List.mem_map] at hu; obtain ⟨q, _, rfl⟩ := hu; exact h1 q)
  obtain ⟨cur', h3, h4, h5⟩ := setCells_row (encs enc ys) at_ W cur hh (by rw [hkl]; omega)
  obtain ⟨s1, s2, s3, s4⟩ := setCells_same g (encs enc ys) at_ W
  have hg : W.grownBy (W.setCells g at_ (encs enc ys)) (some g) := ⟨s1, s2, s3, by rw [s4]; exact Nat.le_refl _, fun k _ hk => setCells_far _ _ k (fun he => hk (by rw [he]))⟩
  have hln : (xs.take at_ ++ (ys ++ xs.drop (at_ + m))).length = xs.length := by
    simp only [List.length_append, List.length_take, List.length_drop]
    omega
  refine wpList_plain hgd fun K hK => ?_
  unfold Oper.wp execOp
  simp only [ho, resolve, invoke, builtin, Sem.run_bind, Sem.run_pure, Result.andThen_ok, List.map_toArray, List.map_cons, List.map_nil, hs, hx, hA, hr]
  rw [hkl]
  refine hK _ _ (h _ (R_of_own ?_ HO.1) (HB.grown hg hbase (fun k hk => by cases hk; exact hb)))
  rw [hln]
  refine ⟨by rw [encs_length, hln, Nat.mul_one], .inr ⟨g, cap, cur', rfl, hb, h3, hnc, hcm, by rw [h4, hcs], ?_⟩⟩
  have htk : cur.toList.take xs.length = encs enc xs := by rw [← htake, Nat.mul_one]
  rw [h5, hkl, encs_append, encs_append, Nat.mul_one]
  have e1 : encs enc (xs.take at_) = (encs enc xs).take at_ := by simp [encs, List.map_take]
  have e2 : encs enc (xs.drop (at_ + m)) = (encs enc xs).drop (at_ + m) := by simp [encs, List.map_drop]
  rw [e1, e2, ← htk, List.append_assoc]
  exact take_splice cur.toList (encs enc ys) at_ m xs.length hkl (by omega) (by have : cur.toList.length = cur.size := Array.length_toList; omega)
end
end Kd
theorem own_cap_le {w : World} {base g n c : Nat} {l : List Int} {ok : Nat → Prop} (h : Kd.R (Kd.int .i64) 3 w base ok (.slice (some ⟨g, 0, none⟩) n c) l) : l.length ≤ c := by
  rcases (Kd.own_of_R h).2 with ⟨h, _⟩ | ⟨g', cap', cur, hv, hb, hh, hnc, _⟩
  · cases h
  · injection hv with _ h1 h2
    subst h1 h2
    exact hnc
def withN (l : List Int) (at_ : Int) (ds : List Int) : List Int := l.take at_.toNat ++ (ds ++ l.drop (at_.toNat + ds.length))
def serial_number_with.f (l : List Int) (at_ : Int) (ds : List Int) : Option (List Int) :=
  if 0 ≤ at_ ∧ at_ + ds.length ≤ l.length ∧ 0 < ds.length ∧ l.length ≤ 1000 then some (withN l at_ ds) else none
set_option maxHeartbeats 4000000 in
set_option maxRecDepth 100000 in
theorem serial_number_with.calls (A0 : Option Addr) (c0 : Nat) (l0 : List Int) (a1 : Int) (A2 : Option Addr) (c2 : Nat) (l2 : List Int) (r : List Int) (w : World) (hr0 : Kd.C (Kd.int .i64) w A0 l0.length l0) (hc0 : l0.length ≤ c0) (hr2 : Kd.C (Kd.int .i64) w A2 l2.length l2) (hc2 : l2.length ≤ c2) (h : serial_number_with.f l0 a1 l2 = some r) :
    Calls Try.prog 85 #[.slice A0 l0.length c0, .int .i64 a1, .slice A2 l2.length c2] w fun e w' => ∃ v0_ : Value, e = .returned (v0_) ∧ Kd.R (Kd.int .i64) 3 w' w.heap.size (fun _ => True) v0_ r ∧ Below w.heap.size w w' := by
  unfold serial_number_with.f at h
  split at h
  case isFalse => cases h
  rename_i hc
  obtain ⟨h1, h2, h3, h4⟩ := hc
  obtain rfl := Option.some.inj h
  obtain ⟨p, rfl⟩ : ∃ p : Nat, a1 = p := ⟨a1.toNat, by omega⟩
  have HP := Aside0.mk (show p + l2.length ≤ l0.length by omega)
  have HL := Aside0.mk h3
  have H4 := Aside0.mk h4
  have HR0 := Aside0.mk hr0
  have HR2 := Aside0.mk hr2
  have HB := Aside0.mk (Below.refl w.heap.size w)
  have hA : A0 = none → l0 = [] := fun e => by
    subst e
    rcases Nat.eq_zero_or_pos l0.length with h | h
    · exact List.eq_nil_of_length_eq_zero h
    · obtain ⟨_, hh, _⟩ := hr0.2.2 h
      cases hh
  have HA := Aside0.mk hA
  have hpl : decide ((p : Int) ≤ (l0.length : Int)) = true := decide_eq_true (by omega)
  have hp0 : decide (0 ≤ (p : Int)) = true := decide_eq_true (by omega)
  clear hr0 hr2 h1 h2 h3 h4 h hA hc0 hc2
  go_enter Try.func85, Try.ntmps85
  have hpl' : (p ≤ l0.length) = True := eq_true (by have := HP.out; omega)
  go_wp2_with (first | (go_at_call 82; refine (cloneN_calls A0 c0 l0 _ HR0.out HA.out (by have := H4.out; omega)).mono ?_; rintro e w5 ⟨v1, rfl, ho, hb⟩; have HO := Aside0.mk ho; have HBs := Aside0.mk (below_step HB.out hb); have HR2b := Aside0.mk (Kd.C_below HR2.out hb); clear HB; have HB := HBs; clear HBs hb; obtain ⟨g3, c3, rfl, e3, e4, e5⟩ := Kd.R_form ho (by have := HP.out; have := HL.out; omega); have hcl := (own_cap_le ho); clear ho; have hne : (c3 = p) = False := eq_false (by have := HP.out; have := HL.out; omega)) | ((with_reducible refine gate_dst (N := 14) rfl ?_); go_loud (refine Kd.R_copy_at (enc := Value.int .i64) (h1 := fun _ => rfl) (0 : Int) (w0 := w) w.heap.size rfl (.tmp 12) (.tmp 13) 94 23 3 rfl Try.underlying94 (by kernel_rfl) g3 c3 p (l0.length - p) (c3 - p) l0 l2 A2 l2.length c2 (fun _ => True) rfl rfl ?aO ?aR ?aB ?aS ?aP ?aF ?aD ?_); go_loud (case aO => exact HO.out); go_loud (case aR => exact HR2b.out); go_loud (case aB => exact HB.out); go_loud (case aS => exact HB.out.size); go_loud (case aP => exact HL.out); go_loud (case aF => exact HP.out); go_loud (case aD => have := HP.out; omega); intro w7 ho hb; have HO2 := Aside0.mk ho; have HB2 := Aside0.mk hb; clear ho hb))
  go_ret
  exact ⟨_, rfl, HO2.out, HB2.out⟩
end Go.Proofs.Ytdkncfmlehcjmaa.X
