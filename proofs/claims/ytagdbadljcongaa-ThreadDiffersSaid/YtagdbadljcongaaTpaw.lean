/- Texts behind ThreadDiffers, part 23: contracts of the program's functions and the plain words for them. -/
import Derived.Test.YtagdbadljcongaaTpas
import Derived.Test.YtagdbadljcongaaTpau
import Derived.Test.YtagdbadljcongaaTpav
section
/- tickingref03.Parted. -/
set_option linter.unusedVariables false
set_option linter.unusedSimpArgs false
namespace Go.Proofs.Ytagdbadljcongaa.X
open Go Go.RowKit Go.Proofs Go.Proofs.YtagdbadljcongaaW.PrintWords Go.Proofs.YtagdbadljcongaaW.PrintLast Go.Proofs.YtagdbadljcongaaW.PrintMore
def rnP (r : Rn) : S88 := ⟨r.a, r.b⟩
theorem has_ev (R : List Rn) (a b : Int) (hl : R.length ≤ 1000000) : ∀ d i k, i + d = R.length → d < k → tickingref03_has.l0 k (R.map rnP) (i : Int) a b = some (hasP (R.drop i) a b)
  | 0, i, 0, h, hk => absurd hk (by omega)
  | 0, i, k + 1, h, hk => by
    unfold tickingref03_has.l0
    rw [if_neg (by simp; omega), List.drop_eq_nil_of_le (by omega)]
    rfl
  | d + 1, i, 0, h, hk => absurd hk (by omega)
  | d + 1, i, k + 1, h, hk => by
    have hi : i < R.length := by omega
    have er : rd_T88 (R.map rnP) (i : Int) = rnP R[i] := by unfold rd_T88; simp [List.getD_eq_getElem?_getD, hi]
    unfold tickingref03_has.l0
    rw [if_pos (by simp; omega), if_pos (by omega), er, List.drop_eq_getElem_cons hi, wr1 (by omega)]
    unfold hasP
    rw [List.any_cons]
    show (if ((R[i].a == a) && (R[i].b == b)) = true then some true else tickingref03_has.l0 k (R.map rnP) ((i + 1 : Nat) : Int) a b) = _
    by_cases h2 : ((R[i].a == a) && (R[i].b == b)) = true
    · rw [if_pos h2, h2]; rfl
    · rw [if_neg h2, has_ev R a b hl d (i + 1) k (by omega) (by omega)]
      rw [Bool.not_eq_true] at h2
      rw [h2]
      rfl
theorem has_any (R : List Rn) (a b : Int) (A : Option Addr) (c : Nat) (w : World) (hl : R.length ≤ 1000000) (hC : Kd.C k88 w A R.length (R.map rnP)) (hc : R.length ≤ c) (r : Bool) (hr : hasP R a b = r) : Calls Try.prog 56 #[.slice A R.length c, .agg #[.int .i64 a, .int .i64 b]] w fun e w' => e = .returned (.bool r) ∧ Below w.heap.size w w' := by
  have h := tickingref03_has.calls (R.length + 1) A c (R.map rnP) a b r w (by rw [List.length_map]; exact hC) (by rw [List.length_map]; exact hc) (by
    have := has_ev R a b hl R.length 0 (R.length + 1) (by omega) (by omega)
    rw [List.drop_zero, hr] at this
    exact this)
  rw [List.length_map] at h
  exact h
/-- What Parted holds. -/
structure PtAt (w : World) (R : List Rn) (A : Option Addr) (c : Nat) (B : Option Addr) (d : Nat) (ws : List ByteArray) (V : World) : Prop where
  row : Kd.R k88 88 V w.heap.size (fun _ => True) (.slice A R.length c) (R.map rnP)
  wds : Kd.R Kd.string 9 V w.heap.size (fun k => True) (.slice B R.length d) ws
  same : ws.map bl = R.map Rn.wd
  bel : Below w.heap.size w V
theorem PtAt.below {w : World} {R : List Rn} {A : Option Addr} {c : Nat} {B : Option Addr} {d : Nat} {ws : List ByteArray} {V V' : World} (h : PtAt w R A c B d ws V) (hb : Below V.heap.size V V') : PtAt w R A c B d ws V' :=
  ⟨Kd.R_below h.row hb, Kd.R_below h.wds hb, h.same, below_step h.bel hb⟩
theorem PtAt.len {w : World} {R : List Rn} {A : Option Addr} {c : Nat} {B : Option Addr} {d : Nat} {ws : List ByteArray} {V : World} (h : PtAt w R A c B d ws V) : ws.length = R.length := by
  have := congrArg List.length h.same
  simpa using this
/-- An entry's places. -/
theorem PtAt.places {w : World} {R : List Rn} {A : Option Addr} {c : Nat} {B : Option Addr} {d : Nat} {ws : List ByteArray} {V : World} (h : PtAt w R A c B d ws V) (q : Nat) (hq : q < R.length) : ∃ g, A = some ⟨g, 0, none⟩ ∧ V.cell? ⟨g, q * 2, none⟩ = some (.int .i64 (R[q]).a) ∧ V.cell? ⟨g, q * 2 + 1, none⟩ = some (.int .i64 (R[q]).b) := by
  obtain ⟨g, cap, hv, _⟩ := Kd.R_form h.row (by rw [List.length_map]; omega)
  injection hv with hv1 hv2 hv3
  subst hv1
  have hC := (Kd.R_reads' h.row).2.2
  obtain ⟨ad, e, h1, h2⟩ := at_T88 hC (q : Int) (by omega) (by simpa using hq)
  injection e with e
  subst e
  have er : rd_T88 (R.map rnP) (q : Int) = rnP R[q] := by unfold rd_T88; simp [List.getD_eq_getElem?_getD, hq]
  rw [er] at h1 h2
  have ea : (⟨g, 0, none⟩ : Addr).add ((q : Int).toNat * 2) = ⟨g, q * 2, none⟩ := by rw [show (q : Int).toNat = q by omega]; exact add_plain g (q * 2)
  rw [ea] at h1 h2
  exact ⟨g, rfl, h1, h2⟩
/-- An entry's word. -/
theorem PtAt.word {w : World} {R : List Rn} {A : Option Addr} {c : Nat} {B : Option Addr} {d : Nat} {ws : List ByteArray} {V : World} (h : PtAt w R A c B d ws V) (q : Nat) (hq : q < R.length) : ∃ g s, B = some ⟨g, 0, none⟩ ∧ V.cell? ⟨g, q, none⟩ = some (.string s) ∧ bl s = (R[q]).wd := by
  have hl := h.len
  obtain ⟨g, cap, hv, _⟩ := Kd.R_form h.wds (by omega)
  injection hv with hv1 hv2 hv3
  subst hv1
  have hC := (Kd.R_reads' h.wds).2.2
  obtain ⟨ad, e, h1⟩ := Kd.at_string hC (q : Int) (by omega) (by omega)
  injection e with e
  subst e
  rw [Int.toNat_natCast, add_plain g q] at h1
  have hq2 : q < ws.length := by omega
  rw [rdOf_nat ws q hq2] at h1
  refine ⟨g, ws[q], rfl, h1, ?_⟩
  have h2 : (ws.map bl)[q]'(by simpa using hq2) = (R.map Rn.wd)[q]'(by simpa using hq) := by simp only [h.same]
  simpa using h2
theorem next_any (s : ByteArray) (i c : Nat) (w : World) (hs : s.size ≤ 60) (hi : i ≤ s.size) (z : Int) (hz : nxP (bl s) i (97 + c) = z) : Calls Try.prog 55 #[.string s, .int .i64 (i : Int), .int .u8 (97 + (c : Int))] w fun e w' => e = .returned (.int .i64 z) ∧ Drawn0 w w' := by
  have h := next_f s (by omega) (97 + c) i (s.size + 1) hi (by omega)
  have e : ((97 + c : Nat) : Int) = 97 + (c : Int) := by simp
  rw [e] at h
  exact tickingref03_Next.calls _ s _ _ z w (by rw [h, ← hz]; rfl)
/-- The reference's list. -/
structure RnOk (u w : List Nat) (R : List Rn) : Prop where
  rng : ∀ r ∈ R, -1 ≤ r.a ∧ r.a ≤ u.length ∧ -1 ≤ r.b ∧ r.b ≤ w.length ∧ r.wd.length ≤ 61
  nd : R.Pairwise (fun x y => ¬ (x.a = y.a ∧ x.b = y.b))
theorem RnOk.start (u w : List Nat) : RnOk u w [⟨0, 0, []⟩] := ⟨fun r hr => by rw [List.mem_singleton] at hr; subst hr; simp, by simp⟩
theorem RnOk.size {u w : List Nat} {R : List Rn} (h : RnOk u w R) (hu : u.length ≤ 60) (hw : w.length ≤ 60) : R.length ≤ 3844 := by
  have h1 := nodup_le (R.map fun r => ((r.a + 1).toNat) * 62 + (r.b + 1).toNat) (List.range 3844) (by
    rw [List.pairwise_map]
    refine h.nd.imp_of_mem fun {a b} ha hb hab e => hab ?_
    have := h.rng a ha; have := h.rng b hb
    omega) (fun x hx => by
    obtain ⟨e, he, rfl⟩ := List.mem_map.1 hx
    have := h.rng e he
    exact List.mem_range.2 (by omega))
  simpa using h1
theorem RnOk.add {u w : List Nat} {R : List Rn} (h : RnOk u w R) {p : Ent} {c : Nat} (hp : p.i ≤ u.length ∧ p.j ≤ w.length ∧ p.wd.length ≤ 60) : RnOk u w (addK R (kid u w p c)) := by
  unfold addK
  split
  · exact h
  · rename_i hn
    refine ⟨fun r hr => ?_, ?_⟩
    · rcases List.mem_append.1 hr with hr | hr
      · exact h.rng r hr
      · rw [List.mem_singleton] at hr
        subst hr
        have h1 := nx_le u p.i (97 + c) hp.1
        have h2 := nx_le w p.j (97 + c) hp.2.1
        unfold kid nxP
        refine ⟨?_, ?_, ?_, ?_, ?_⟩
        · dsimp only; split <;> omega
        · dsimp only; split <;> omega
        · dsimp only; split <;> omega
        · dsimp only; split <;> omega
        · simp; omega
    · rw [List.pairwise_append]
      refine ⟨h.nd, by simp, fun a ha b hb e => hn ?_⟩
      rw [List.mem_singleton] at hb
      subst hb
      exact List.any_eq_true.2 ⟨a, ha, by simp [e.1, e.2]⟩
theorem app_p88 {w W : World} {base : Nat} {ok : Nat → Prop} {A : Option Addr} {c n : Nat} {xs : List S88} {x : S88} (hn : xs.length = n) (hr : Kd.R k88 88 W base ok (.slice A n c) xs) (hB : Below base w W) (hbase : base ≤ W.heap.size) (hfresh : ∀ k, W.heap.size ≤ k → ok k) (hl : xs.length ≤ 1000000) (i j : Nat) (ops : Array Oper) (rest : List Oper) (o : Oper) (a : Act) (Q : Exit → Act → World → Prop)
    (hgd : o.guard = none) (ho : o.op = .call { callee := .builtin .append, args := #[.tmp i, .tmp j], argTypes := #[89, 89] }) (hs : a.eval (.tmp i) = .slice A n c) (hx : a.eval (.tmp j) = .slice (some ⟨W.heap.size, 0, none⟩) 1 1)
    (h : ∀ A' c' w', Kd.R k88 88 w' base ok (.slice A' (n + 1) c') (xs ++ [x]) → Below base w w' → W.grownBy w' (Value.slice A n c).ownBlock → wpList Try.prog ops Q rest (a.put o.dst (.slice A' (n + 1) c')) w') :
    wpList Try.prog ops Q (o :: rest) a (W.alloc (.cells #[.int .i64 x.f0, .int .i64 x.f1] 88)) := by
  refine Kd.R_append k88 (w0 := w) base hgd (.tmp i) (.tmp j) 89 88 (.agg #[.int .i64 0, .int .i64 0]) 16 ho Try.underlying89 info88 rfl (by decide) (by decide) (.slice A n c) xs x [.int .i64 x.f0, .int .i64 x.f1] ok (fun _ => False) hs hx (k88_mkM _ _ _ _) (fun _ h => h.elim) hfresh hr hB hbase (by omega) ?_
  intro v1 w1 ho hb hg hat
  obtain ⟨A', c', rfl⟩ := Kd.R_slice ho
  have e : (xs ++ [x]).length = n + 1 := by simp [hn]
  rw [e] at ho ⊢
  exact h A' c' w1 ho hb hg
/-- What Parted returns. -/
def PtPost (r : Option (List Nat)) (w : World) (e : Ending) (w' : World) : Prop := ∃ o, bl o = r.getD [] ∧ e = .returned (.tuple #[.string o, .bool r.isSome]) ∧ Below w.heap.size w w'
theorem PtAt.start (w : World) : PtAt w [⟨0, 0, []⟩] (some ⟨w.heap.size + 1, 0, none⟩) 1 (some ⟨w.heap.size, 0, none⟩) 1 [⟨#[]⟩] ((w.alloc (.cells #[.string ⟨#[]⟩] 9)).alloc (.cells #[.int .i64 0, .int .i64 0] 88)) := by
  have s0 : (w.alloc (.cells #[.string ⟨#[]⟩] 9)).heap.size = w.heap.size + 1 := World.size_alloc _ _
  refine ⟨?_, ?_, rfl, below_alloc (below_alloc (Below.refl _ _) _) _⟩
  · refine ⟨fun k _ => trivial, ?_⟩
    have h := OwnRow.lit (R := k88.M ((w.alloc (.cells #[.string ⟨#[]⟩] 9)).alloc (.cells #[.int .i64 0, .int .i64 0] 88)) w.heap.size (fun k => True ∧ some k ≠ some (w.heap.size + 1))) (e := 88) (w.alloc (.cells #[.string ⟨#[]⟩] 9)) w.heap.size (Reps.c2 (k88_mkM _ _ _ ⟨0, 0⟩) (Reps.none _ 2)) (by omega) (by simp)
    rw [s0] at h
    exact h
  · have h : Kd.R Kd.string 9 (w.alloc (.cells #[.string ⟨#[]⟩] 9)) w.heap.size (fun _ => True) (.slice (some ⟨w.heap.size, 0, none⟩) 1 1) [⟨#[]⟩] :=
      ⟨fun k _ => trivial, OwnRow.lit (R := Kd.string.M (w.alloc (.cells #[.string ⟨#[]⟩] 9)) w.heap.size (fun k => True ∧ some k ≠ some w.heap.size)) (e := 9) w w.heap.size (Reps.one rfl (Reps.none _ 1)) (by omega) (by simp)⟩
    exact Kd.R_below h (below_alloc (Below.refl _ _) _)
set_option maxHeartbeats 8000000 in
set_option maxRecDepth 1000000 in
theorem parted_any (u s : ByteArray) (w : World) (hu60 : u.size ≤ 60) (hs60 : s.size ≤ 60) (r : Option (List Nat)) (hr : diffW (bl u) (bl s) = r) : Calls Try.prog 30 #[.string u, .string s, .int .i64 4, .int .i64 61] w (PtPost r w) := by
  have HU60 := Aside0.mk hu60
  have HS60 := Aside0.mk hs60
  have HRR := Aside0.mk (show partF (bl u) (bl s) 61 5000 0 [⟨0, 0, []⟩] = r by rw [part_diff (by rw [bl_length]; exact hu60) (by rw [bl_length]; exact hs60) (by omega) 5000 (by omega)]; exact hr)
  clear hu60 hs60 hr
  go_enter Try.func30, Try.ntmps30
  go_wp2
  have H0 := Aside0.mk (PtAt.start w)
  obtain ⟨W0, hW0⟩ : ∃ W0, (w.alloc (.cells #[.string ⟨#[]⟩] 9)).alloc (.cells #[.int .i64 0, .int .i64 0] 88) = W0 := ⟨_, rfl⟩
  rw [hW0] at H0
  rw [hW0]
  clear hW0
  go_loopw [10, 11, 12] (fun v10 v11 v12 wr => ∃ (q : Nat) (R : List Rn) (A : Option Addr) (c : Nat) (B : Option Addr) (d : Nat) (ws : List ByteArray), v12 = .int .i64 q ∧ v10 = .slice B R.length d ∧ v11 = .slice A R.length c ∧ q ≤ R.length ∧ Aside0 (RnOk (bl u) (bl s) R) ∧ Aside0 (PtAt w R A c B d ws wr) ∧ Aside0 (partF (bl u) (bl s) 61 (5000 - q) q R = r)) (fun _ _ v12 _ => 5000 - (intOf v12).toNat)
  case atStart => exact ⟨0, [⟨0, 0, []⟩], _, _, _, _, [⟨#[]⟩], rfl, rfl, rfl, by simp, ⟨RnOk.start _ _⟩, H0, HRR⟩
  case round =>
    clear H0 HRR
    obtain ⟨q, R, A, c, B, d, ws, rfl, rfl, rfl, hq, HO, HP, HE⟩ := hrel
    have hRl : R.length ≤ 3844 := HO.out.size (by rw [bl_length]; exact HU60.out) (by rw [bl_length]; exact HS60.out)
    have HRL := Aside0.mk hRl
    have hqb : (q : Int) ≤ 3844 := by omega
    by_cases hlt : q < R.length
    · have hltI : (q : Int) < (R.length : Int) := by omega
      have hq0 : (0 : Int) ≤ (q : Int) := by omega
      obtain ⟨g, rfl, p1, p2⟩ := HP.out.places q hlt
      obtain ⟨gw, o, rfl, p3, hwd⟩ := HP.out.word q hlt
      obtain ⟨pa, hpa⟩ : ∃ a, (R[q]).a = a := ⟨_, rfl⟩
      obtain ⟨pb, hpb⟩ : ∃ a, (R[q]).b = a := ⟨_, rfl⟩
      rw [hpa] at p1
      rw [hpb] at p2
      have HR := Aside0.mk (show ∀ h : q < R.length, (R[q]).a = pa ∧ (R[q]).b = pb ∧ (R[q]).wd = bl o from fun _ => ⟨hpa, hpb, hwd.symm⟩)
      have hrng := HO.out.rng _ (List.getElem_mem hlt)
      rw [hpa, hpb, ← hwd, bl_length, bl_length, bl_length] at hrng
      have HRG := Aside0.mk hrng
      have hst : partF (bl u) (bl s) 61 (5000 - q) q R = if dif R[q] then some (bl o) else if 61 ≤ o.size ∨ pa < 0 then partF (bl u) (bl s) 61 (5000 - (q + 1)) (q + 1) R else partF (bl u) (bl s) 61 (5000 - (q + 1)) (q + 1) (kids (bl u) (bl s) ⟨pa.toNat, pb.toNat, bl o⟩ [0, 1, 2, 3] R) := by
        rw [show 5000 - q = (5000 - (q + 1)) + 1 by omega]
        conv => lhs; unfold partF
        rw [List.getElem?_eq_getElem hlt]
        dsimp only
        rw [← hwd, hpa, hpb, bl_length]
      have hdf : dif R[q] = (decide (pa < 0) != decide (pb < 0)) := by unfold dif; rw [hpa, hpb]
      rw [hdf] at hst
      have HST := Aside0.mk (hst.symm.trans HE.out)
      have HLT := Aside0.mk hlt
      clear hRl hlt hwd hpa hpb hrng hst hdf HE
      by_cases ha : pa < 0 <;> by_cases hb : pb < 0
      · have HR1 := HST.out
        rw [decide_eq_true ha, decide_eq_true hb, if_neg (by decide), if_pos (.inr ha)] at HR1
        have HR2 := Aside0.mk HR1
        have d1 := decide_eq_true ha
        have d2 := decide_eq_true hb
        clear HR1 HST
        go_upto_region 6 with (fail)
        go_quiet (fail)
        go_wp2
        all_goals
          go_roundw
          case rel => exact ⟨q + 1, R, _, c, _, d, ws, by go_num, rfl, rfl, by have := HLT.out; omega, HO, ⟨HP.out.below (pw_below_drewN (Below.refl _ _) _)⟩, HR2⟩
          case measure => simp [intOf]; have := HLT.out; have := HRL.out; omega
      · have HR1 := HST.out
        rw [decide_eq_true ha, decide_eq_false hb, if_pos (by decide)] at HR1
        subst HR1
        have d1 := decide_eq_true ha
        have d2 := decide_eq_false hb
        clear HST
        go_upto_region 6 with (fail)
        go_quiet (fail)
        go_wp2
        go_ret2
        exact ⟨o, rfl, rfl, below_step HP.out.bel (pw_below_drewN (Below.refl _ _) _)⟩
      · have HR1 := HST.out
        rw [decide_eq_false ha, decide_eq_true hb, if_pos (by decide)] at HR1
        subst HR1
        have d1 := decide_eq_false ha
        have d2 := decide_eq_true hb
        clear HST
        go_upto_region 6 with (fail)
        go_quiet (fail)
        go_wp2
        go_ret2
        exact ⟨o, rfl, rfl, below_step HP.out.bel (pw_below_drewN (Below.refl _ _) _)⟩
      · have d1 := decide_eq_false ha
        have d2 := decide_eq_false hb
        have HR1 := HST.out
        rw [d1, d2, if_neg (by decide)] at HR1
        clear HST
        by_cases ho : 61 ≤ o.size
        · rw [if_pos (.inl ho)] at HR1
          have HR2 := Aside0.mk HR1
          have d3 : (61 : Int) ≤ (o.size : Int) := by omega
          clear HR1
          go_upto_region 6 with (fail)
          go_quiet (fail)
          go_wp2
          go_roundw
          case rel => exact ⟨q + 1, R, _, c, _, d, ws, by go_num, rfl, rfl, by have := HLT.out; omega, HO, ⟨HP.out.below (pw_below_drewN (Below.refl _ _) _)⟩, HR2⟩
          case measure => simp [intOf]; have := HLT.out; have := HRL.out; omega
        · rw [if_neg (by omega)] at HR1
          have HR2 := Aside0.mk HR1
          have d3 : ¬ ((61 : Int) ≤ (o.size : Int)) := by omega
          clear HR1
          obtain ⟨pi, rfl⟩ := Int.eq_ofNat_of_zero_le (show 0 ≤ pa by omega)
          obtain ⟨pj, rfl⟩ := Int.eq_ofNat_of_zero_le (show 0 ≤ pb by omega)
          go_upto_region 6 with (fail)
          go_quiet (fail)
          go_wp2
          obtain ⟨W1, hW1⟩ : ∃ W1, wr.drewN nq = W1 := ⟨_, rfl⟩
          have HP1 := Aside0.mk (HP.out.below (pw_below_drewN (Below.refl _ _) nq))
          rw [hW1] at HP1 ⊢
          clear hW1
          obtain ⟨P, hP⟩ : ∃ P : Ent, P = ⟨pi, pj, bl o⟩ := ⟨_, rfl⟩
          have HPE := Aside0.mk hP
          have HPL := Aside0.mk (show pi ≤ u.size ∧ pj ≤ s.size by have := HRG.out; omega)
          obtain ⟨K, hK⟩ : ∃ K, kids (bl u) (bl s) P [0, 1, 2, 3] R = K := ⟨_, rfl⟩
          have HK := Aside0.mk (show partF (bl u) (bl s) 61 (5000 - (q + 1)) (q + 1) K = r by
            have h := HR2.out
            rw [← hK, hP]
            exact h)
          have HK0 := Aside0.mk (show kids (bl u) (bl s) P ([0, 1, 2, 3].drop 0) R = K from hK)
          have HO60 := Aside0.mk (show o.size ≤ 60 by omega)
          have HROW := Aside0.mk (show ∀ h : q < R.length, (R[q]).a = (pi : Int) ∧ (R[q]).b = (pj : Int) ∧ (R[q]).wd = bl o from HR.out)
          clear hP hK HR2 HR d1 d2 d3 ha hb ho p1 p2 p3 HRG
          go_loopw [10, 11, 13] (fun v10 v11 v13 wz => ∃ (k : Nat) (R' : List Rn) (A : Option Addr) (c : Nat) (B : Option Addr) (d : Nat) (ws : List ByteArray), v13 = .int .i64 k ∧ v10 = .slice B R'.length d ∧ v11 = .slice A R'.length c ∧ k ≤ 4 ∧ Aside0 (∃ S, R' = R ++ S) ∧ Aside0 (RnOk (bl u) (bl s) R') ∧ Aside0 (PtAt w R' A c B d ws wz) ∧ Aside0 (kids (bl u) (bl s) P ([0, 1, 2, 3].drop k) R' = K)) (fun _ _ v13 _ => 4 - (intOf v13).toNat)
          case atStart => exact ⟨0, R, _, c, _, d, ws, rfl, rfl, rfl, by omega, ⟨[], by simp⟩, HO, HP1, HK0⟩
          case round =>
            clear HK0 HP1 HO HP
            obtain ⟨k, R', A', c', B', d', ws', rfl, rfl, rfl, hk, HS, HO, HP, HKD⟩ := hrel
            by_cases hk4 : k < 4
            · have hk4I : (k : Int) < 4 := by omega
              have hRl : R'.length ≤ 3844 := HO.out.size (by rw [bl_length]; exact HU60.out) (by rw [bl_length]; exact HS60.out)
              have HRL' := Aside0.mk hRl
              have hqr : q < R'.length := by obtain ⟨S, hS⟩ := HS.out; rw [hS, List.length_append]; have := HLT.out; omega
              have hqe : R'[q] = R[q]'HLT.out := by obtain ⟨S, hS⟩ := HS.out; subst hS; exact List.getElem_append_left HLT.out
              have hqI : (q : Int) < (R'.length : Int) := by omega
              obtain ⟨g, rfl, p1, p2⟩ := HP.out.places q hqr
              obtain ⟨gw, o2, rfl, p3, hwd⟩ := HP.out.word q hqr
              rw [hqe, (HROW.out HLT.out).1] at p1
              rw [hqe, (HROW.out HLT.out).2.1] at p2
              rw [hqe, (HROW.out HLT.out).2.2] at hwd
              have ho2 : o2 = o := bl_inj hwd
              subst ho2
              have hcv : IntKind.u8.wrap (97 + (k : Int)) = 97 + (k : Int) := by
                show (97 + (k : Int)) % 256 = 97 + (k : Int)
                omega
              obtain ⟨z1, hz1⟩ : ∃ z, nxP (bl u) pi (97 + k) = z := ⟨_, rfl⟩
              obtain ⟨z2, hz2⟩ : ∃ z, nxP (bl s) pj (97 + k) = z := ⟨_, rfl⟩
              have HZ1 := Aside0.mk hz1
              have HZ2 := Aside0.mk hz2
              have HK4 := Aside0.mk hk4
              clear hqr hqe hwd hz1 hz2 hk4 hRl hk
              go_upto_region 13 with (fail)
              have HSW := Aside0.mk (fun (w' : World) (hb : Below wr.heap.size wr w') => show w'.cell? ⟨g, q * 2, none⟩ = some (.int .i64 (pi : Int)) ∧ w'.cell? ⟨g, q * 2 + 1, none⟩ = some (.int .i64 (pj : Int)) from ⟨pw_cell_below hb p1, pw_cell_below hb p2⟩)
              have HB0 := Aside0.mk (show Below wr.heap.size wr wr.drew from below_drew (Below.refl _ _))
              refine start_ (n := 19) (S := fun w' => w'.cell? ⟨g, q * 2, none⟩ = some (.int .i64 (pi : Int)) ∧ w'.cell? ⟨g, q * 2 + 1, none⟩ = some (.int .i64 (pj : Int))) (ds := [18]) #[false, false, false, false, false, false, false, false, false, false, false, false, false, false, false, false, false, false, false] (by kernel_rfl) rfl rfl (HSW.out _ HB0.out) (fun hHeld => ?_)
              refine pure_ (i := 0) (N := (some 65)) (v := ?_) (a' := ?_) #[true, false, false, false, false, false, false, false, false, false, false, false, false, false, false, false, false, false, false] rfl rfl (by kernel_rfl) (fun _ _ _ h => h) (Or.inl ⟨by rfl, ?_⟩) ?_ ?_
              rotate_left
              · intro w'
                go_simp
                with_reducible rfl
              rotate_left
              · simp only [Act.put, List.setIfInBounds_toArray, List.set_cons_zero, List.set_cons_succ, i64_w, i32_w]
                rfl
              refine pure_ (i := 1) (N := (some 66)) (v := ?_) (a' := ?_) #[true, true, false, false, false, false, false, false, false, false, false, false, false, false, false, false, false, false, false] rfl rfl (by kernel_rfl) (fun _ _ _ h => h) (Or.inl ⟨by rfl, ?_⟩) ?_ ?_
              rotate_left
              · intro w'
                go_simp
                with_reducible rfl
              rotate_left
              · simp only [Act.put, List.setIfInBounds_toArray, List.set_cons_zero, List.set_cons_succ, i64_w, i32_w]
                rfl
              refine pure_ (i := 2) (N := (some 67)) (v := ?_) (a' := ?_) #[true, true, true, false, false, false, false, false, false, false, false, false, false, false, false, false, false, false, false] rfl rfl (by kernel_rfl) (fun _ _ _ h => h) (Or.inl ⟨by rfl, ?_⟩) ?_ ?_
              rotate_left
              · intro w'
                go_simp
                with_reducible rfl
              rotate_left
              · simp only [Act.put, List.setIfInBounds_toArray, List.set_cons_zero, List.set_cons_succ, i64_w, i32_w]
                rfl
              refine pure_ (i := 3) (N := (some 68)) (v := ?_) (a' := ?_) #[true, true, true, true, false, false, false, false, false, false, false, false, false, false, false, false, false, false, false] rfl rfl (by kernel_rfl) (fun _ _ _ h => h) (Or.inl ⟨by rfl, ?_⟩) ?_ ?_
              rotate_left
              · intro w'
                go_simp
                with_reducible rfl
              rotate_left
              · simp only [Act.put, List.setIfInBounds_toArray, List.set_cons_zero, List.set_cons_succ, i64_w, i32_w]
                rfl
              refine pure_ (i := 4) (N := (some 69)) (v := ?_) (a' := ?_) #[true, true, true, true, true, false, false, false, false, false, false, false, false, false, false, false, false, false, false] rfl rfl (by kernel_rfl) (fun _ _ _ h => h) (Or.inl ⟨by rfl, ?_⟩) ?_ ?_
              rotate_left
              · intro w'
                go_simp
                with_reducible rfl
              rotate_left
              · simp only [Act.put, List.setIfInBounds_toArray, List.set_cons_zero, List.set_cons_succ, i64_w, i32_w]
                rfl
              refine take_ (i := 5) (N := (some 70)) (v := ?_) (a' := ?_) #[true, true, true, true, true, true, false, false, false, false, false, false, false, false, false, false, false, false, false] rfl rfl (by kernel_rfl) (fun _ _ _ h => h) (Or.inl ⟨by rfl, ?_⟩) hHeld ?_ ?_
              rotate_left
              · rintro w' ⟨s0, s1⟩
                go_simp
                with_reducible rfl
              rotate_left
              · simp only [Act.put, List.setIfInBounds_toArray, List.set_cons_zero, List.set_cons_succ, i64_w, i32_w]
                rfl
              refine pure_ (i := 6) (N := (some 71)) (v := ?_) (a' := ?_) #[true, true, true, true, true, true, true, false, false, false, false, false, false, false, false, false, false, false, false] rfl rfl (by kernel_rfl) (fun _ _ _ h => h) (Or.inl ⟨by rfl, ?_⟩) ?_ ?_
              rotate_left
              · intro w'
                go_simp
                with_reducible rfl
              rotate_left
              · simp only [Act.put, List.setIfInBounds_toArray, List.set_cons_zero, List.set_cons_succ, i64_w, i32_w]
                rfl
              refine pure_ (i := 8) (N := (some 73)) (v := ?_) (a' := ?_) #[true, true, true, true, true, true, true, false, true, false, false, false, false, false, false, false, false, false, false] rfl rfl (by kernel_rfl) (fun _ _ _ h => h) (Or.inl ⟨by rfl, ?_⟩) ?_ ?_
              rotate_left
              · intro w'
                go_simp
                with_reducible rfl
              rotate_left
              · simp only [Act.put, List.setIfInBounds_toArray, List.set_cons_zero, List.set_cons_succ, i64_w, i32_w]
                rfl
              refine pure_ (i := 9) (N := (some 74)) (v := ?_) (a' := ?_) #[true, true, true, true, true, true, true, false, true, true, false, false, false, false, false, false, false, false, false] rfl rfl (by kernel_rfl) (fun _ _ _ h => h) (Or.inl ⟨by rfl, ?_⟩) ?_ ?_
              rotate_left
              · intro w'
                go_simp
                with_reducible rfl
              rotate_left
              · simp only [Act.put, List.setIfInBounds_toArray, List.set_cons_zero, List.set_cons_succ, i64_w, i32_w]
                rfl
              refine pure_ (i := 10) (N := (some 75)) (v := ?_) (a' := ?_) #[true, true, true, true, true, true, true, false, true, true, true, false, false, false, false, false, false, false, false] rfl rfl (by kernel_rfl) (fun _ _ _ h => h) (Or.inl ⟨by rfl, ?_⟩) ?_ ?_
              rotate_left
              · intro w'
                go_simp
                with_reducible rfl
              rotate_left
              · simp only [Act.put, List.setIfInBounds_toArray, List.set_cons_zero, List.set_cons_succ, i64_w, i32_w]
                rfl
              refine pure_ (i := 11) (N := (some 76)) (v := ?_) (a' := ?_) #[true, true, true, true, true, true, true, false, true, true, true, true, false, false, false, false, false, false, false] rfl rfl (by kernel_rfl) (fun _ _ _ h => h) (Or.inl ⟨by rfl, ?_⟩) ?_ ?_
              rotate_left
              · intro w'
                go_simp
                with_reducible rfl
              rotate_left
              · simp only [Act.put, List.setIfInBounds_toArray, List.set_cons_zero, List.set_cons_succ, i64_w, i32_w]
                rfl
              refine pure_ (i := 12) (N := (some 77)) (v := ?_) (a' := ?_) #[true, true, true, true, true, true, true, false, true, true, true, true, true, false, false, false, false, false, false] rfl rfl (by kernel_rfl) (fun _ _ _ h => h) (Or.inl ⟨by rfl, ?_⟩) ?_ ?_
              rotate_left
              · intro w'
                go_simp
                with_reducible rfl
              rotate_left
              · simp only [Act.put, List.setIfInBounds_toArray, List.set_cons_zero, List.set_cons_succ, i64_w, i32_w]
                rfl
              refine take_ (i := 13) (N := (some 78)) (v := ?_) (a' := ?_) #[true, true, true, true, true, true, true, false, true, true, true, true, true, true, false, false, false, false, false] rfl rfl (by kernel_rfl) (fun _ _ _ h => h) (Or.inl ⟨by rfl, ?_⟩) hHeld ?_ ?_
              rotate_left
              · rintro w' ⟨s0, s1⟩
                go_simp
                with_reducible rfl
              rotate_left
              · simp only [Act.put, List.setIfInBounds_toArray, List.set_cons_zero, List.set_cons_succ, i64_w, i32_w]
                rfl
              refine pure_ (i := 14) (N := (some 79)) (v := ?_) (a' := ?_) #[true, true, true, true, true, true, true, false, true, true, true, true, true, true, true, false, false, false, false] rfl rfl (by kernel_rfl) (fun _ _ _ h => h) (Or.inl ⟨by rfl, ?_⟩) ?_ ?_
              rotate_left
              · intro w'
                go_simp
                with_reducible rfl
              rotate_left
              · simp only [Act.put, List.setIfInBounds_toArray, List.set_cons_zero, List.set_cons_succ, i64_w, i32_w]
                rfl
              refine join_ (σ := Nat) 1 #[true, true, true, true, true, true, true, true, true, true, true, true, true, true, true, true, true, true, false] (fun s_ => [(72, .int .i64 z1), (80, .int .i64 z2), (81, .agg #[.int .i64 z1, .int .i64 z2]), (15, .pointer (some ⟨s_, 0, none⟩))]) (fun s_ w' => w'.heap[s_]? = some (.cells #[.int .i64 0, .int .i64 0] 88 (0, 0)) ∧ Below wr.heap.size wr w' ∧ wr.heap.size ≤ s_) ?_ ?_
              rotate_left
              · intro hCont
                refine two_ (i := 7) (j := 17) (Ni := (some 72)) (Nj := (some 15)) #[true, true, true, true, true, true, true, true, true, true, true, true, true, true, true, false, false, false, false] #[true, true, true, true, true, true, true, false, true, true, true, true, true, true, true, false, false, true, false] rfl rfl rfl rfl (by kernel_rfl) (by decide) (by decide) (fun K hK => ?_) (fun K hK => ?_)
                · skip
                  refine goes_ Try.func55 (by kernel_rfl) rfl #[.string u, .int .i64 (pi : Int), .int .u8 (97 + (k : Int))] (by rfl) rfl rfl (by (try simp only [List.map_toArray, List.map_cons, List.map_nil]); first | done | rfl) ?_
                  refine (next_any u pi k _ HU60.out HPL.out.1 z1 HZ1.out).mono ?_
                  rintro e w' ⟨rfl, ⟨nd1, rfl⟩⟩
                  refine ⟨_, rfl, ?_⟩
                  have HBn := Aside0.mk (below_step HB0.out (pw_below_drewN (Below.refl _ _) nd1))
                  clear HB0
                  have HB0 := HBn
                  clear HBn
                  refine hK.out _ _ (HSW.out _ HB0.out) (fun hHeld => ?_)
                  clear hK K
                  refine norm_ (a' := ?_) ?_ ?_
                  rotate_left
                  · show Act.put _ (some 72) _ = _
                    simp only [Act.put, List.setIfInBounds_toArray, List.set_cons_zero, List.set_cons_succ, i64_w, i32_w]
                    rfl
                  refine two_ (i := 15) (j := 17) (Ni := (some 80)) (Nj := (some 15)) #[true, true, true, true, true, true, true, true, true, true, true, true, true, true, true, true, false, false, false] #[true, true, true, true, true, true, true, true, true, true, true, true, true, true, true, false, false, true, false] rfl rfl rfl rfl (by kernel_rfl) (by decide) (by decide) (fun K hK => ?_) (fun K hK => ?_)
                  · skip
                    refine goes_ Try.func55 (by kernel_rfl) rfl #[.string s, .int .i64 (pj : Int), .int .u8 (97 + (k : Int))] (by rfl) rfl rfl (by (try simp only [List.map_toArray, List.map_cons, List.map_nil]); first | done | rfl) ?_
                    refine (next_any s pj k _ HS60.out HPL.out.2 z2 HZ2.out).mono ?_
                    rintro e w' ⟨rfl, ⟨nd2, rfl⟩⟩
                    refine ⟨_, rfl, ?_⟩
                    have HBn := Aside0.mk (below_step HB0.out (pw_below_drewN (Below.refl _ _) nd2))
                    clear HB0
                    have HB0 := HBn
                    clear HBn
                    refine hK.out _ _ (HSW.out _ HB0.out) (fun hHeld => ?_)
                    clear hK K
                    refine norm_ (a' := ?_) ?_ ?_
                    rotate_left
                    · show Act.put _ (some 80) _ = _
                      simp only [Act.put, List.setIfInBounds_toArray, List.set_cons_zero, List.set_cons_succ, i64_w, i32_w]
                      rfl
                    refine pure_ (i := 16) (N := (some 81)) (v := ?_) (a' := ?_) #[true, true, true, true, true, true, true, true, true, true, true, true, true, true, true, true, true, false, false] rfl rfl (by kernel_rfl) (fun _ _ _ h => h) (Or.inl ⟨by rfl, ?_⟩) ?_ ?_
                    rotate_left
                    · intro w'
                      go_simp
                      with_reducible rfl
                    rotate_left
                    · simp only [Act.put, List.setIfInBounds_toArray, List.set_cons_zero, List.set_cons_succ, i64_w, i32_w]
                      rfl
                    refine one_ (i := 17) (N := (some 15)) #[true, true, true, true, true, true, true, true, true, true, true, true, true, true, true, true, true, true, false] rfl rfl (by kernel_rfl) (by decide) (fun K hK => ?_)
                    refine box_step ?hg (N := 15) ?hd (cs := #[.int .i64 0, .int .i64 0]) (t := 88) ?hr ?_; (case hd => rfl); (case hg => rfl); (case hr => first | (go_simp; done) | (go_simp; rfl))
                    intro gA hg w8 hbox hb
                    have HGA := Aside0.mk (show wr.heap.size ≤ gA by rw [hg]; exact HB0.out.size)
                    have HX := Aside0.mk hbox
                    have HBn := Aside0.mk (below_step HB0.out hb)
                    clear HB0
                    have HB0 := HBn
                    clear HBn hbox hb hg
                    refine hK.out _ _ (HSW.out _ HB0.out) (fun hHeld => ?_)
                    clear hK K
                    refine norm_ (a' := ?_) ?_ ?_
                    rotate_left
                    · show Act.put _ (some 15) _ = _
                      simp only [Act.put, List.setIfInBounds_toArray, List.set_cons_zero, List.set_cons_succ, i64_w, i32_w]
                      rfl
                    exact norm_ (by simp only [putAll, Act.put, List.setIfInBounds_toArray, List.set_cons_zero, List.set_cons_succ]) (hCont (gA) _ ⟨HX.out, HB0.out, HGA.out⟩)
                  · skip
                    refine box_step ?hg (N := 15) ?hd (cs := #[.int .i64 0, .int .i64 0]) (t := 88) ?hr ?_; (case hd => rfl); (case hg => rfl); (case hr => first | (go_simp; done) | (go_simp; rfl))
                    intro gA hg w8 hbox hb
                    have HGA := Aside0.mk (show wr.heap.size ≤ gA by rw [hg]; exact HB0.out.size)
                    have HX := Aside0.mk hbox
                    have HBn := Aside0.mk (below_step HB0.out hb)
                    clear HB0
                    have HB0 := HBn
                    clear HBn hbox hb hg
                    refine hK.out _ _ (HSW.out _ HB0.out) (fun hHeld => ?_)
                    clear hK K
                    refine norm_ (a' := ?_) ?_ ?_
                    rotate_left
                    · show Act.put _ (some 15) _ = _
                      simp only [Act.put, List.setIfInBounds_toArray, List.set_cons_zero, List.set_cons_succ, i64_w, i32_w]
                      rfl
                    refine one_ (i := 15) (N := (some 80)) #[true, true, true, true, true, true, true, true, true, true, true, true, true, true, true, true, false, true, false] rfl rfl (by kernel_rfl) (by decide) (fun K hK => ?_)
                    refine goes_ Try.func55 (by kernel_rfl) rfl #[.string s, .int .i64 (pj : Int), .int .u8 (97 + (k : Int))] (by rfl) rfl rfl (by (try simp only [List.map_toArray, List.map_cons, List.map_nil]); first | done | rfl) ?_
                    refine (next_any s pj k _ HS60.out HPL.out.2 z2 HZ2.out).mono ?_
                    rintro e w' ⟨rfl, ⟨nd2, rfl⟩⟩
                    refine ⟨_, rfl, ?_⟩
                    have HBn := Aside0.mk (below_step HB0.out (pw_below_drewN (Below.refl _ _) nd2))
                    clear HB0
                    have HB0 := HBn
                    clear HBn
                    have HXn := Aside0.mk (blk_drewN HX.out nd2)
                    clear HX
                    have HX := HXn
                    clear HXn
                    refine hK.out _ _ (HSW.out _ HB0.out) (fun hHeld => ?_)
                    clear hK K
                    refine norm_ (a' := ?_) ?_ ?_
                    rotate_left
                    · show Act.put _ (some 80) _ = _
                      simp only [Act.put, List.setIfInBounds_toArray, List.set_cons_zero, List.set_cons_succ, i64_w, i32_w]
                      rfl
                    refine pure_ (i := 16) (N := (some 81)) (v := ?_) (a' := ?_) #[true, true, true, true, true, true, true, true, true, true, true, true, true, true, true, true, true, true, false] rfl rfl (by kernel_rfl) (fun _ _ _ h => h) (Or.inl ⟨by rfl, ?_⟩) ?_ ?_
                    rotate_left
                    · intro w'
                      go_simp
                      with_reducible rfl
                    rotate_left
                    · simp only [Act.put, List.setIfInBounds_toArray, List.set_cons_zero, List.set_cons_succ, i64_w, i32_w]
                      rfl
                    exact norm_ (by simp only [putAll, Act.put, List.setIfInBounds_toArray, List.set_cons_zero, List.set_cons_succ]) (hCont (gA) _ ⟨HX.out, HB0.out, HGA.out⟩)
                · skip
                  refine box_step ?hg (N := 15) ?hd (cs := #[.int .i64 0, .int .i64 0]) (t := 88) ?hr ?_; (case hd => rfl); (case hg => rfl); (case hr => first | (go_simp; done) | (go_simp; rfl))
                  intro gA hg w8 hbox hb
                  have HGA := Aside0.mk (show wr.heap.size ≤ gA by rw [hg]; exact HB0.out.size)
                  have HX := Aside0.mk hbox
                  have HBn := Aside0.mk (below_step HB0.out hb)
                  clear HB0
                  have HB0 := HBn
                  clear HBn hbox hb hg
                  refine hK.out _ _ (HSW.out _ HB0.out) (fun hHeld => ?_)
                  clear hK K
                  refine norm_ (a' := ?_) ?_ ?_
                  rotate_left
                  · show Act.put _ (some 15) _ = _
                    simp only [Act.put, List.setIfInBounds_toArray, List.set_cons_zero, List.set_cons_succ, i64_w, i32_w]
                    rfl
                  refine one_ (i := 7) (N := (some 72)) #[true, true, true, true, true, true, true, true, true, true, true, true, true, true, true, false, false, true, false] rfl rfl (by kernel_rfl) (by decide) (fun K hK => ?_)
                  refine goes_ Try.func55 (by kernel_rfl) rfl #[.string u, .int .i64 (pi : Int), .int .u8 (97 + (k : Int))] (by rfl) rfl rfl (by (try simp only [List.map_toArray, List.map_cons, List.map_nil]); first | done | rfl) ?_
                  refine (next_any u pi k _ HU60.out HPL.out.1 z1 HZ1.out).mono ?_
                  rintro e w' ⟨rfl, ⟨nd1, rfl⟩⟩
                  refine ⟨_, rfl, ?_⟩
                  have HBn := Aside0.mk (below_step HB0.out (pw_below_drewN (Below.refl _ _) nd1))
                  clear HB0
                  have HB0 := HBn
                  clear HBn
                  have HXn := Aside0.mk (blk_drewN HX.out nd1)
                  clear HX
                  have HX := HXn
                  clear HXn
                  refine hK.out _ _ (HSW.out _ HB0.out) (fun hHeld => ?_)
                  clear hK K
                  refine norm_ (a' := ?_) ?_ ?_
                  rotate_left
                  · show Act.put _ (some 72) _ = _
                    simp only [Act.put, List.setIfInBounds_toArray, List.set_cons_zero, List.set_cons_succ, i64_w, i32_w]
                    rfl
                  refine one_ (i := 15) (N := (some 80)) #[true, true, true, true, true, true, true, true, true, true, true, true, true, true, true, true, false, true, false] rfl rfl (by kernel_rfl) (by decide) (fun K hK => ?_)
                  refine goes_ Try.func55 (by kernel_rfl) rfl #[.string s, .int .i64 (pj : Int), .int .u8 (97 + (k : Int))] (by rfl) rfl rfl (by (try simp only [List.map_toArray, List.map_cons, List.map_nil]); first | done | rfl) ?_
                  refine (next_any s pj k _ HS60.out HPL.out.2 z2 HZ2.out).mono ?_
                  rintro e w' ⟨rfl, ⟨nd2, rfl⟩⟩
                  refine ⟨_, rfl, ?_⟩
                  have HBn := Aside0.mk (below_step HB0.out (pw_below_drewN (Below.refl _ _) nd2))
                  clear HB0
                  have HB0 := HBn
                  clear HBn
                  have HXn := Aside0.mk (blk_drewN HX.out nd2)
                  clear HX
                  have HX := HXn
                  clear HXn
                  refine hK.out _ _ (HSW.out _ HB0.out) (fun hHeld => ?_)
                  clear hK K
                  refine norm_ (a' := ?_) ?_ ?_
                  rotate_left
                  · show Act.put _ (some 80) _ = _
                    simp only [Act.put, List.setIfInBounds_toArray, List.set_cons_zero, List.set_cons_succ, i64_w, i32_w]
                    rfl
                  refine pure_ (i := 16) (N := (some 81)) (v := ?_) (a' := ?_) #[true, true, true, true, true, true, true, true, true, true, true, true, true, true, true, true, true, true, false] rfl rfl (by kernel_rfl) (fun _ _ _ h => h) (Or.inl ⟨by rfl, ?_⟩) ?_ ?_
                  rotate_left
                  · intro w'
                    go_simp
                    with_reducible rfl
                  rotate_left
                  · simp only [Act.put, List.setIfInBounds_toArray, List.set_cons_zero, List.set_cons_succ, i64_w, i32_w]
                    rfl
                  exact norm_ (by simp only [putAll, Act.put, List.setIfInBounds_toArray, List.set_cons_zero, List.set_cons_succ]) (hCont (gA) _ ⟨HX.out, HB0.out, HGA.out⟩)
              rintro gA wJ ⟨hx, hb, hg⟩
              have HXJ := Aside0.mk hx
              have HBJ := Aside0.mk hb
              have HGJ := Aside0.mk hg
              clear hx hb hg HB0
              refine norm_ (a' := ?_) ?_ ?_
              rotate_left
              · simp only [putAll, Act.put, List.setIfInBounds_toArray, List.set_cons_zero, List.set_cons_succ]
                rfl
              refine last_ (i := 18) (N := none) #[true, true, true, true, true, true, true, true, true, true, true, true, true, true, true, true, true, true, true] rfl rfl (by kernel_rfl) (by decide) (fun K hK => ?_)
              have hs0 : wJ.cell? ⟨gA, 0, none⟩ = some (.int .i64 0) := (blk_cell HXJ.out 0).trans rfl
              have hs1 : wJ.cell? ⟨gA, 1, none⟩ = some (.int .i64 0) := (blk_cell HXJ.out 1).trans rfl
              have hf0 := blk_frozen HXJ.out 0
              have hf1 := blk_frozen HXJ.out 1
              refine skip_ (w1 := ?_) (by rfl) rfl ?_ ?_
              rotate_left
              · go_simp
                rfl
              refine hK.out _ _ ?_
              clear hK K
              clear hs0 hs1 hf0 hf1
              refine done_ (by kernel_rfl) ?_
              have HXV := Aside0.mk (show ((wJ.setCell ⟨gA, 0, none⟩ (.int .i64 z1)).setCell ⟨gA, 1, none⟩ (.int .i64 z2)).heap[gA]? = some (.cells #[.int .i64 z1, .int .i64 z2] 88 (0, 0)) from (blk_set ((blk_set HXJ.out 0 _).trans rfl) 1 _).trans rfl)
              have HBV := Aside0.mk (show Below wr.heap.size wr ((wJ.setCell ⟨gA, 0, none⟩ (.int .i64 z1)).setCell ⟨gA, 1, none⟩ (.int .i64 z2)) from (HBJ.out.setCell HGJ.out _).setCell HGJ.out _)
              obtain ⟨V, hV⟩ : ∃ V, (wJ.setCell ⟨gA, 0, none⟩ (.int .i64 z1)).setCell ⟨gA, 1, none⟩ (.int .i64 z2) = V := ⟨_, rfl⟩
              rw [hV] at HXV HBV ⊢
              clear hV HXJ HBJ HGJ HSW
              have HPV := Aside0.mk (HP.out.below HBV.out)
              have x1 : V.cell? ⟨gA, 0, none⟩ = some (.int .i64 z1) := (blk_cell HXV.out 0).trans rfl
              have x2 : V.cell? ⟨gA, 1, none⟩ = some (.int .i64 z2) := (blk_cell HXV.out 1).trans rfl
              have x3 : V.cell? ⟨gw, q, none⟩ = some (.string o2) := pw_cell_below HBV.out p3
              obtain ⟨hn, hhn⟩ : ∃ hn, hasP R' z1 z2 = hn := ⟨_, rfl⟩
              have HHN := Aside0.mk hhn
              have HKI := Aside0.mk (show kid (bl u) (bl s) P k = ⟨z1, z2, bl o2 ++ [97 + k]⟩ by rw [HPE.out]; unfold kid; rw [← HZ1.out, ← HZ2.out])
              have HKS := Aside0.mk (show kids (bl u) (bl s) P ([0, 1, 2, 3].drop (k + 1)) (addK R' (kid (bl u) (bl s) P k)) = K by
                have h := HKD.out
                rw [drop4 HK4.out] at h
                exact h)
              have HCV := Aside0.mk (show Kd.C k88 V (some ⟨g, 0, none⟩) R'.length (R'.map rnP) ∧ R'.length ≤ c' by
                have h := Kd.R_reads' HPV.out.row
                rw [List.length_map] at h
                exact h.2.symm)
              clear hhn p1 p2 p3 HP
              cases hn with
              | true =>
                go_wp2_with (go_at_call 56; (with_reducible refine (has_any R' z1 z2 _ _ _ (by have := HRL'.out; omega) HCV.out.1 HCV.out.2 true HHN.out).mono ?_); rintro e w5 ⟨rfl, hb⟩; have HB5 := Aside0.mk hb; clear hb)
                go_roundw
                case rel => exact ⟨k + 1, R', _, c', _, d', ws', by go_num, rfl, rfl, by have := HK4.out; omega, HS, HO, ⟨HPV.out.below HB5.out⟩, ⟨by
                  have h := HKS.out
                  unfold addK at h
                  rw [HKI.out, if_pos HHN.out] at h
                  exact h⟩⟩
                case measure => simp [intOf]; have := HK4.out; omega
              | false =>
                go_upto_region 15 with (go_at_call 56; (with_reducible refine (has_any R' z1 z2 _ _ _ (by have := HRL'.out; omega) HCV.out.1 HCV.out.2 false HHN.out).mono ?_); rintro e w5 ⟨rfl, hb⟩; have HB5 := Aside0.mk hb; clear hb)
                have HP5 := Aside0.mk (HPV.out.below HB5.out)
                have y1 : w5.cell? ⟨gA, 0, none⟩ = some (.int .i64 z1) := pw_cell_below HB5.out x1
                have y2 : w5.cell? ⟨gA, 1, none⟩ = some (.int .i64 z2) := pw_cell_below HB5.out x2
                have y3 : w5.cell? ⟨gw, q, none⟩ = some (.string o2) := pw_cell_below HB5.out x3
                clear x1 x2 x3
                have KEY := Aside0.mk (app_p88 (x := ⟨z1, z2⟩) (xs := R'.map rnP) (n := R'.length) (by simp) HP5.out.row HP5.out.bel HP5.out.bel.size (fun _ _ => trivial) (by simp; have := HRL'.out; omega) 86 88)
                go_upto_region 16 with (at_builtin; refine KEY.out _ _ _ _ _ rfl rfl rfl rfl ?_; intro A6 c6 w6 h1 h2 h3; have HR6 := Aside0.mk h1; have HB6 := Aside0.mk h2; have HG6 := Aside0.mk h3; clear h1 h2 h3)
                have HW6 := Aside0.mk (show Kd.R Kd.string 9 w6 w.heap.size (fun _ => True) (.slice (some ⟨gw, 0, none⟩) R'.length d') ws' from by
                  refine Kd.R_mono (Kd.R_move (Kd.R_bound HP5.out.wds) (fun k hkk => ?_)) (fun k hkk => hkk.1)
                  obtain ⟨_, _, _, t, ht, cells, hc⟩ := hkk
                  have ht9 : t = 9 := by have hE : Kd.string.E = [] := rfl; simpa [hE] using ht
                  subst ht9
                  rw [hc, blk_grown hc HG6.out (Kd.R_ne HP5.out.row hc (by decide))])
                have z3 : w6.cell? ⟨gw, q, none⟩ = some (.string o2) := by
                  have hC := (Kd.R_reads' HW6.out).2.2
                  obtain ⟨ad, e, h1⟩ := Kd.at_string hC (q : Int) (by omega) (by rw [HP5.out.len]; omega)
                  injection e with e
                  subst e
                  rw [Int.toNat_natCast, add_plain gw q] at h1
                  obtain ⟨cells, hc⟩ : ∃ cells, w5.heap[gw]? = some (.cells cells 9 (0, 0)) := Kd.R_typed HP5.out.wds gw rfl
                  have := blk_grown hc HG6.out (Kd.R_ne HP5.out.row hc (by decide))
                  exact (blk_cell this q).trans ((blk_cell hc q).symm.trans y3)
                clear y1 y2 y3
                have HB0 := Aside0.mk (show Below w6.heap.size w6 w6.drew from below_drew (Below.refl _ _))
                have cv : (convert 36 9 (.slice (some ⟨w6.heap.size, 0, none⟩) 1 1)).run Try.prog (w6.alloc (.cells #[.int .u8 (97 + (k : Int))] 5)).drew = .ok (.string (strOfNums [97 + (k : Int)])) (w6.alloc (.cells #[.int .u8 (97 + (k : Int))] 5)).drew := conv_lit (97 + (k : Int)) w6.drew
                have hsz : o2.size + (strOfNums [97 + (k : Int)]).size ≤ 9223372036854775807 := by rw [strOfNums_size]; have := HO60.out; simp; omega
                have hsz2 : ¬ (9223372036854775807 < o2.size + (strOfNums [97 + (k : Int)]).size) := by omega
                have HWL := Aside0.mk (show ws'.length = R'.length from HP5.out.len)
                have HBL := Aside0.mk (show bl (o2 ++ strOfNums [97 + (k : Int)]) = bl o2 ++ [97 + k] by rw [bl_append, show bl (strOfNums [97 + (k : Int)]) = [97 + k] from bl_one (y := 97 + k) (by omega)])
                refine start_ (n := 12) (S := fun w' => w'.cell? ⟨gw, q, none⟩ = some (.string o2)) (ds := [10, 11]) #[false, false, false, false, false, false, false, false, false, false, false, false] (by kernel_rfl) rfl rfl (pw_cell_below HB0.out z3) (fun hHeld => ?_)
                refine pure_ (i := 0) (N := (some 90)) (v := ?_) (a' := ?_) #[true, false, false, false, false, false, false, false, false, false, false, false] rfl rfl (by kernel_rfl) (fun _ _ _ h => h) (Or.inl ⟨by rfl, ?_⟩) ?_ ?_
                rotate_left
                · intro w'
                  go_simp
                  with_reducible rfl
                rotate_left
                · simp only [Act.put, List.setIfInBounds_toArray, List.set_cons_zero, List.set_cons_succ, i64_w, i32_w]
                  rfl
                refine pure_ (i := 1) (N := (some 91)) (v := ?_) (a' := ?_) #[true, true, false, false, false, false, false, false, false, false, false, false] rfl rfl (by kernel_rfl) (fun _ _ _ h => h) (Or.inl ⟨by rfl, ?_⟩) ?_ ?_
                rotate_left
                · intro w'
                  go_simp
                  with_reducible rfl
                rotate_left
                · simp only [Act.put, List.setIfInBounds_toArray, List.set_cons_zero, List.set_cons_succ, i64_w, i32_w]
                  rfl
                refine pure_ (i := 2) (N := (some 92)) (v := ?_) (a' := ?_) #[true, true, true, false, false, false, false, false, false, false, false, false] rfl rfl (by kernel_rfl) (fun _ _ _ h => h) (Or.inl ⟨by rfl, ?_⟩) ?_ ?_
                rotate_left
                · intro w'
                  go_simp
                  with_reducible rfl
                rotate_left
                · simp only [Act.put, List.setIfInBounds_toArray, List.set_cons_zero, List.set_cons_succ, i64_w, i32_w]
                  rfl
                refine pure_ (i := 3) (N := (some 93)) (v := ?_) (a' := ?_) #[true, true, true, true, false, false, false, false, false, false, false, false] rfl rfl (by kernel_rfl) (fun _ _ _ h => h) (Or.inl ⟨by rfl, ?_⟩) ?_ ?_
                rotate_left
                · intro w'
                  go_simp
                  with_reducible rfl
                rotate_left
                · simp only [Act.put, List.setIfInBounds_toArray, List.set_cons_zero, List.set_cons_succ, i64_w, i32_w]
                  rfl
                refine take_ (i := 4) (N := (some 94)) (v := ?_) (a' := ?_) #[true, true, true, true, true, false, false, false, false, false, false, false] rfl rfl (by kernel_rfl) (fun _ _ _ h => h) (Or.inl ⟨by rfl, ?_⟩) hHeld ?_ ?_
                rotate_left
                · rintro w' s0
                  go_simp
                  with_reducible rfl
                rotate_left
                · simp only [Act.put, List.setIfInBounds_toArray, List.set_cons_zero, List.set_cons_succ, i64_w, i32_w]
                  rfl
                refine pure_ (i := 5) (N := (some 95)) (v := ?_) (a' := ?_) #[true, true, true, true, true, true, false, false, false, false, false, false] rfl rfl (by kernel_rfl) (fun _ _ _ h => h) (Or.inl ⟨by rfl, ?_⟩) ?_ ?_
                rotate_left
                · intro w'
                  go_simp
                  with_reducible rfl
                rotate_left
                · simp only [Act.put, List.setIfInBounds_toArray, List.set_cons_zero, List.set_cons_succ, i64_w, i32_w]
                  rfl
                refine one_ (i := 6) (N := (some 96)) #[true, true, true, true, true, true, true, false, false, false, false, false] rfl rfl (by kernel_rfl) (by decide) (fun K hK => ?_)
                refine value_ (w1 := ?_) (v := ?_) (by rfl) rfl ?_ ?_
                rotate_left 2
                · go_simp
                  constructor
                  · rfl
                  · rfl
                refine hK.out _ _ (pw_cell_below (below_alloc HB0.out _) z3) (fun hHeld => ?_)
                clear hK K
                refine norm_ (a' := ?_) ?_ ?_
                rotate_left
                · show Act.put _ (some 96) _ = _
                  simp only [Act.put, List.setIfInBounds_toArray, List.set_cons_zero, List.set_cons_succ, i64_w, i32_w]
                  rfl
                refine one_ (i := 7) (N := (some 97)) #[true, true, true, true, true, true, true, true, false, false, false, false] rfl rfl (by kernel_rfl) (by decide) (fun K hK => ?_)
                refine value_ (w1 := ?_) (v := ?_) (by rfl) rfl ?_ ?_
                rotate_left 2
                · go_simp
                  constructor
                  · rfl
                  · rfl
                refine hK.out _ _ (pw_cell_below (below_alloc HB0.out _) z3) (fun hHeld => ?_)
                clear hK K
                refine norm_ (a' := ?_) ?_ ?_
                rotate_left
                · show Act.put _ (some 97) _ = _
                  simp only [Act.put, List.setIfInBounds_toArray, List.set_cons_zero, List.set_cons_succ, i64_w, i32_w]
                  rfl
                refine pure_ (i := 8) (N := (some 98)) (v := ?_) (a' := ?_) #[true, true, true, true, true, true, true, true, true, false, false, false] rfl rfl (by kernel_rfl) (fun _ _ _ h => h) (Or.inl ⟨by rfl, ?_⟩) ?_ ?_
                rotate_left
                · intro w'
                  go_simp
                  with_reducible rfl
                rotate_left
                · simp only [Act.put, List.setIfInBounds_toArray, List.set_cons_zero, List.set_cons_succ, i64_w, i32_w]
                  rfl
                refine one_ (i := 9) (N := (some 99)) #[true, true, true, true, true, true, true, true, true, true, false, false] rfl rfl (by kernel_rfl) (by decide) (fun K hK => ?_)
                refine value_ (w1 := ?_) (v := ?_) (by rfl) rfl ?_ ?_
                rotate_left 2
                · go_simp
                  constructor
                  · rfl
                  · rfl
                refine hK.out _ _ (pw_cell_below (below_alloc (below_alloc HB0.out _) _) z3) (fun hHeld => ?_)
                clear hK K
                refine norm_ (a' := ?_) ?_ ?_
                rotate_left
                · show Act.put _ (some 99) _ = _
                  simp only [Act.put, List.setIfInBounds_toArray, List.set_cons_zero, List.set_cons_succ, i64_w, i32_w]
                  rfl
                refine last_ (i := 10) (N := (some 100)) #[true, true, true, true, true, true, true, true, true, true, true, false] rfl rfl (by kernel_rfl) (by decide) (fun K hK => ?_)
                refine Kd.R_append_step Kd.string (w0 := w) (W := (w6.alloc (.cells #[.int .u8 (97 + (k : Int))] 5)).drew) w.heap.size (by rfl) (.tmp 90) (.tmp 99) 53 9 (.string ByteArray.empty) 16 rfl Try.underlying53 info9w rfl (by decide) (by omega) (.slice (some ⟨gw, 0, none⟩) R'.length d') ws' (o2 ++ strOfNums [97 + (k : Int)]) [.string (o2 ++ strOfNums [97 + (k : Int)])] (fun _ => True) (fun _ => False) rfl (show Value.slice (some ⟨w6.heap.size + 1, 0, none⟩) 1 1 = .slice (some ⟨(w6.alloc (.cells #[.int .u8 (97 + (k : Int))] 5)).heap.size, 0, none⟩) 1 1 by rw [World.size_alloc]) rfl (fun _ hk => hk.elim) (fun _ _ => trivial) (Kd.R_below HW6.out (below_alloc HB0.out _)) (below_step HB6.out (below_alloc HB0.out _)) (Nat.le_trans HB6.out.size (below_alloc HB0.out _).size) (by have := HWL.out; have := HRL'.out; omega) ?_
                intro v7 w7 h1 h2 h3 h4
                obtain ⟨B7, d7, rfl⟩ := Kd.R_slice h1
                have HR7 := Aside0.mk h1
                have HB7 := Aside0.mk h2
                have HG7 := Aside0.mk h3
                clear h1 h2 h3 h4
                refine hK.out _ _ ?_
                clear hK K
                refine norm_ (a' := ?_) ?_ ?_
                rotate_left
                · show Act.put _ (some 100) _ = _
                  simp only [Act.put, List.setIfInBounds_toArray, List.set_cons_zero, List.set_cons_succ, i64_w, i32_w]
                  rfl
                refine pure_ (i := 11) (N := (some 10)) (v := ?_) (a' := ?_) #[true, true, true, true, true, true, true, true, true, true, true, true] rfl rfl (by kernel_rfl) (fun _ _ _ h => h) (Or.inl ⟨by rfl, ?_⟩) ?_ ?_
                rotate_left
                · intro w'
                  go_simp
                  with_reducible rfl
                rotate_left
                · simp only [Act.put, List.setIfInBounds_toArray, List.set_cons_zero, List.set_cons_succ, i64_w, i32_w]
                  rfl
                refine done_ (by kernel_rfl) ?_
                have HADD := Aside0.mk (show addK R' (kid (bl u) (bl s) P k) = R' ++ [⟨z1, z2, bl o2 ++ [97 + k]⟩] by unfold addK; rw [HKI.out, if_neg (by show ¬ hasP R' z1 z2 = true; rw [HHN.out]; decide)])
                have HRN := Aside0.mk (show RnOk (bl u) (bl s) (R' ++ [⟨z1, z2, bl o2 ++ [97 + k]⟩]) by
                  have h := HO.out.add (p := P) (c := k) (by rw [HPE.out]; exact ⟨by rw [bl_length]; exact HPL.out.1, by rw [bl_length]; exact HPL.out.2, by rw [bl_length]; exact HO60.out⟩)
                  rw [HADD.out] at h
                  exact h)
                have HRW := Aside0.mk (show Kd.R k88 88 w7 w.heap.size (fun _ => True) (.slice A6 (R'.length + 1) c6) (R'.map rnP ++ [⟨z1, z2⟩]) from by
                  have h6 := Kd.R_below HR6.out (below_alloc HB0.out (.cells #[.int .u8 (97 + (k : Int))] 5))
                  refine Kd.R_mono (Kd.R_move (Kd.R_bound h6) (fun x hxx => ?_)) (fun x hxx => hxx.1)
                  obtain ⟨_, _, _, t, ht, cells, hc⟩ := hxx
                  have ht9 : t = 88 := by have hE : k88.E = [] := rfl; simpa [hE] using ht
                  subst ht9
                  rw [hc, blk_grown (show ((w6.alloc (.cells #[.int .u8 (97 + (k : Int))] 5)).drew).heap[x]? = _ from hc) HG7.out (Kd.R_ne (Kd.R_below HW6.out (below_alloc HB0.out (.cells #[.int .u8 (97 + (k : Int))] 5))) hc (by decide))])
                have HPT := Aside0.mk (show PtAt w (R' ++ [⟨z1, z2, bl o2 ++ [97 + k]⟩]) A6 c6 B7 d7 (ws' ++ [o2 ++ strOfNums [97 + (k : Int)]]) w7 from ⟨by rw [List.length_append, List.map_append]; exact HRW.out, by
                  have h := HR7.out
                  rw [List.length_append, HWL.out] at h
                  rw [List.length_append]; exact h, by rw [List.map_append, List.map_append, HPV.out.same]; simp [HBL.out], HB7.out⟩)
                have e8 : (ws' ++ [o2 ++ strOfNums [97 + (k : Int)]]).length = R'.length + 1 := by rw [List.length_append, HWL.out]; rfl
                go_wp2
                go_roundw
                case rel => exact ⟨k + 1, R' ++ [⟨z1, z2, bl o2 ++ [97 + k]⟩], A6, c6, B7, d7, ws' ++ [o2 ++ strOfNums [97 + (k : Int)]], by go_num, by simp [HWL.out], by simp, by have := HK4.out; omega, ⟨by obtain ⟨S, hS⟩ := HS.out; exact ⟨S ++ [_], by rw [hS, List.append_assoc]⟩⟩, HRN, HPT, ⟨by
                  have h := HKS.out
                  rw [HADD.out] at h
                  exact h⟩⟩
                case measure => simp [intOf]; have := HK4.out; omega
            · have hk4I : ¬ ((k : Int) < 4) := by omega
              have hke : k = 4 := by omega
              subst hke
              have HKE := Aside0.mk (show R' = K from HKD.out)
              have hq2 : q < R'.length := by obtain ⟨S, hS⟩ := HS.out; rw [hS, List.length_append]; have := HLT.out; omega
              have HQ2 := Aside0.mk hq2
              clear hk4 hk hq2
              go_wp2
              go_roundw
              case rel => exact ⟨q + 1, R', A', c', B', d', ws', by go_num, rfl, rfl, by have := HQ2.out; omega, HO, HP, ⟨by rw [HKE.out]; exact HK.out⟩⟩
              case measure => simp [intOf]; have := HLT.out; have := HRL.out; omega
    · have hltI : ¬ ((q : Int) < (R.length : Int)) := by omega
      have hR := HE.out
      have hn : partF (bl u) (bl s) 61 (5000 - q) q R = none := by
        rw [show 5000 - q = (5000 - (q + 1)) + 1 by omega]
        unfold partF
        rw [List.getElem?_eq_none (by omega)]
      rw [hn] at hR
      subst hR
      clear hlt hn
      go_wp2
      go_ret2
      exact ⟨⟨#[]⟩, rfl, rfl, HP.out.bel⟩
end Go.Proofs.Ytagdbadljcongaa.X
end

section
/- The law ThreadDiffers, walked. -/
set_option linter.unusedVariables false
set_option linter.unusedSimpArgs false
namespace Go.Proofs.Ytagdbadljcongaa.X
open Go Go.RowKit Go.Proofs Go.Proofs.YtagdbadljcongaaW.PrintWords Go.Proofs.YtagdbadljcongaaW.PrintLast Go.Proofs.YtagdbadljcongaaW.PrintMore
theorem parted_some (u s : ByteArray) (w : World) (hu60 : u.size ≤ 60) (hs60 : s.size ≤ 60) (o : ByteArray) (r : List Nat) (hr : diffW (bl u) (bl s) = some r) (ho : bl o = r) : Calls Try.prog 30 #[.string u, .string s, .int .i64 4, .int .i64 61] w fun e w' => e = .returned (.tuple #[.string o, .bool true]) ∧ Below w.heap.size w w' := by
  refine (parted_any u s w hu60 hs60 _ hr).mono ?_
  rintro e w' ⟨o2, h1, rfl, hb⟩
  have : o2 = o := bl_inj (h1.trans ho.symm)
  subst this
  exact ⟨rfl, hb⟩
theorem parted_none (u : ByteArray) (w : World) (hu60 : u.size ≤ 60) : Calls Try.prog 30 #[.string u, .string u, .int .i64 4, .int .i64 61] w fun e w' => e = .returned (.tuple #[.string ⟨#[]⟩, .bool false]) ∧ Below w.heap.size w w' := by
  refine (parted_any u u w hu60 hu60 _ (diff_same _)).mono ?_
  rintro e w' ⟨o2, h1, rfl, hb⟩
  have : o2 = ⟨#[]⟩ := bl_inj h1
  subst this
  exact ⟨rfl, hb⟩
set_option maxHeartbeats 8000000 in
set_option maxRecDepth 1000000 in
theorem ThreadDiffers_calls (a0 a1 : ByteArray) (n : Int) (w : World) : Calls Try.prog 5 #[.string a0, .string a1, .int .i64 n] w fun e w' => e = .returned (.bool true) ∧ Below w.heap.size w w' := by
  go_enter Try.func5, Try.ntmps5
  go_upto_region 2 with (first | (go_at_call 17; (with_reducible refine (short_any a0 w).mono ?_); rintro e w1 ⟨x, rfl, HX, hb⟩; have HB1 := Aside0.mk hb; clear hb) | (go_at_call 17; (with_reducible refine (short_any a1 _).mono ?_); rintro e w2 ⟨y, rfl, HY, hb⟩; have HB2 := Aside0.mk (below_step HB1.out hb); clear hb))
  by_cases hW : isW (bl x) = true ∧ isW (bl y) = true
  · have HA := Aside0.mk hW.1
    have HC := Aside0.mk hW.2
    have HX60 := Aside0.mk (show x.size ≤ 60 by rw [← bl_length]; exact ((isW_iff _).1 hW.1).1)
    have HY60 := Aside0.mk (show y.size ≤ 60 by rw [← bl_length]; exact ((isW_iff _).1 hW.2).1)
    clear hW
    by_cases hn : n < 0
    · by_cases hxy : x = y
      · subst hxy
        go_wp2_with (first | (go_at_call 28; (with_reducible refine (Differ_same x _ HA.out).mono ?_); rintro e w3 ⟨rfl, hb⟩; have HB3 := Aside0.mk (below_step HB2.out hb); clear hb) | (go_at_call 29; (with_reducible refine (Same_bad x x n _ (.inr hn)).mono ?_); rintro e w4 ⟨rfl, hb⟩; have HB6 := Aside0.mk (below_step HB3.out hb); clear hb) | (go_at_call 20; (with_reducible refine (word_any x true _ (by have := HX.out; omega) HA.out).mono ?_); rintro e w5 ⟨rfl, hd⟩; first | (have HB5 := Aside0.mk (below_step HB6.out hd.below); clear HB6; have HB6 := HB5; clear HB5; clear hd)) | (go_at_call 30; (with_reducible refine (parted_none x _ HX60.out).mono ?_); rintro e w8 ⟨rfl, hb⟩; have HB7 := Aside0.mk (below_step HB6.out hb); clear hb) | (go_at_call 22; (with_reducible refine (awake_ok _).mono ?_); rintro e w7 ⟨rfl, hb⟩; have HB8 := Aside0.mk (below_step HB7.out hb); clear hb))
        go_ret
        exact ⟨rfl, HB8.out⟩
      · have HNE := Aside0.mk hxy
        obtain ⟨r, hr⟩ := diff_some HA.out HC.out (fun h => hxy (bl_inj h))
        have HRR := Aside0.mk hr
        have PS := Aside0.mk (fun (o : ByteArray) (ho : bl o = r) W => parted_some x y W HX60.out HY60.out o r hr ho)
        clear hr hxy
        go_wp2_with (first | (go_at_call 28; (with_reducible refine (Differ_ok x y _ HA.out HC.out HNE.out _ HRR.out).mono ?_); rintro e w3 ⟨o, ho, rfl, hb⟩; have HO := Aside0.mk (show bl o = r from ho); have HB3 := Aside0.mk (below_step HB2.out hb); clear hb ho) | (go_at_call 29; (with_reducible refine (Same_bad x y n _ (.inr hn)).mono ?_); rintro e w4 ⟨rfl, hb⟩; have HB4 := Aside0.mk (below_step HB3.out hb); clear hb) | (go_at_call 20; (with_reducible refine (word_any x true _ (by have := HX.out; omega) HA.out).mono ?_); rintro e w5 ⟨rfl, hd⟩; have HB5 := Aside0.mk (below_step HB4.out hd.below); clear hd) | (go_at_call 20; (with_reducible refine (word_any y true _ (by have := HY.out; omega) HC.out).mono ?_); rintro e w6 ⟨rfl, hd⟩; have HB6 := Aside0.mk (below_step HB5.out hd.below); clear hd) | (go_at_call 30; (with_reducible refine (PS.out o HO.out _).mono ?_); rintro e w8 ⟨rfl, hb⟩; have HB7 := Aside0.mk (below_step HB6.out hb); clear hb) | (go_at_call 22; (with_reducible refine (awake_ok _).mono ?_); rintro e w7 ⟨rfl, hb⟩; have HB8 := Aside0.mk (below_step HB7.out hb); clear hb))
        go_ret
        exact ⟨rfl, HB8.out⟩
    · have hn0 : 0 ≤ n := by omega
      by_cases hxy : x = y
      · subst hxy
        go_wp2_with (first | (go_at_call 28; (with_reducible refine (Differ_same x _ HA.out).mono ?_); rintro e w3 ⟨rfl, hb⟩; have HB3 := Aside0.mk (below_step HB2.out hb); clear hb) | (go_at_call 29; (with_reducible refine (Same_same x n _ HA.out hn0).mono ?_); rintro e w4 ⟨rfl, hb⟩; have HB6 := Aside0.mk (below_step HB3.out hb); clear hb) | (go_at_call 20; (with_reducible refine (word_any x true _ (by have := HX.out; omega) HA.out).mono ?_); rintro e w5 ⟨rfl, hd⟩; first | (have HB5 := Aside0.mk (below_step HB6.out hd.below); clear HB6; have HB6 := HB5; clear HB5; clear hd)) | (go_at_call 30; (with_reducible refine (parted_none x _ HX60.out).mono ?_); rintro e w8 ⟨rfl, hb⟩; have HB7 := Aside0.mk (below_step HB6.out hb); clear hb) | (go_at_call 22; (with_reducible refine (awake_ok _).mono ?_); rintro e w7 ⟨rfl, hb⟩; have HB8 := Aside0.mk (below_step HB7.out hb); clear hb))
        go_ret
        exact ⟨rfl, HB8.out⟩
      · have HNE := Aside0.mk hxy
        obtain ⟨r, hr⟩ := diff_some HA.out HC.out (fun h => hxy (bl_inj h))
        have HRR := Aside0.mk hr
        have PS := Aside0.mk (fun (o : ByteArray) (ho : bl o = r) W => parted_some x y W HX60.out HY60.out o r hr ho)
        have SA := Aside0.mk (fun (o : ByteArray) (ho : bl o = r) W => show Calls Try.prog 29 #[.string x, .string y, .int .i64 n] W fun e w' => e = .returned (.tuple #[.bool (decide (n < (o.size : Int))), .int .i64 0]) ∧ Below W.heap.size W w' from by
          have h := Same_ok x y n W HA.out HC.out hxy hn0 (some r) hr
          rw [show ((some r).getD []).length = o.size by rw [← bl_length, ho]; rfl] at h
          exact h)
        clear hr hxy
        go_wp2_with (first | (go_at_call 28; (with_reducible refine (Differ_ok x y _ HA.out HC.out HNE.out _ HRR.out).mono ?_); rintro e w3 ⟨o, ho, rfl, hb⟩; have HO := Aside0.mk (show bl o = r from ho); have HB3 := Aside0.mk (below_step HB2.out hb); clear hb ho) | (go_at_call 29; (with_reducible refine (SA.out o HO.out _).mono ?_); rintro e w4 ⟨rfl, hb⟩; have HB4 := Aside0.mk (below_step HB3.out hb); clear hb) | (go_at_call 20; (with_reducible refine (word_any x true _ (by have := HX.out; omega) HA.out).mono ?_); rintro e w5 ⟨rfl, hd⟩; have HB5 := Aside0.mk (below_step HB4.out hd.below); clear hd) | (go_at_call 20; (with_reducible refine (word_any y true _ (by have := HY.out; omega) HC.out).mono ?_); rintro e w6 ⟨rfl, hd⟩; have HB6 := Aside0.mk (below_step HB5.out hd.below); clear hd) | (go_at_call 30; (with_reducible refine (PS.out o HO.out _).mono ?_); rintro e w8 ⟨rfl, hb⟩; have HB7 := Aside0.mk (below_step HB6.out hb); clear hb) | (go_at_call 22; (with_reducible refine (awake_ok _).mono ?_); rintro e w7 ⟨rfl, hb⟩; have HB8 := Aside0.mk (below_step HB7.out hb); clear hb))
        go_ret
        exact ⟨by simp, HB8.out⟩
  · have HBAD := Aside0.mk hW
    obtain ⟨a, ha⟩ : ∃ a, isW (bl x) = a := ⟨_, rfl⟩
    obtain ⟨c, hc⟩ : ∃ c, isW (bl y) = c := ⟨_, rfl⟩
    have HA := Aside0.mk ha
    have HC := Aside0.mk hc
    rw [ha, hc] at hW
    clear ha hc
    cases a <;> cases c
    case true.true => exact absurd ⟨rfl, rfl⟩ hW
    all_goals
      clear hW
      go_wp2_with (first | (go_at_call 28; (with_reducible refine (Differ_bad x y _ HBAD.out).mono ?_); rintro e w3 ⟨rfl, hb⟩; have HB3 := Aside0.mk (below_step HB2.out hb); clear hb) | (go_at_call 29; (with_reducible refine (Same_bad x y n _ (.inl HBAD.out)).mono ?_); rintro e w4 ⟨rfl, hb⟩; have HB4 := Aside0.mk (below_step HB3.out hb); have HB6 := HB4; clear hb) | (go_at_call 20; (with_reducible refine (word_any x _ _ (by have := HX.out; omega) HA.out).mono ?_); rintro e w5 ⟨rfl, hd⟩; have HB5 := Aside0.mk (below_step HB4.out hd.below); clear HB6; have HB6 := HB5; clear hd) | (go_at_call 20; (with_reducible refine (word_any y _ _ (by have := HY.out; omega) HC.out).mono ?_); rintro e w6 ⟨rfl, hd⟩; have HB7 := Aside0.mk (below_step HB5.out hd.below); clear HB6; have HB6 := HB7; clear hd) | (go_at_call 22; (with_reducible refine (awake_ok _).mono ?_); rintro e w7 ⟨rfl, hb⟩; have HB8 := Aside0.mk (below_step HB6.out hb); clear hb))
      go_ret
      exact ⟨rfl, HB8.out⟩
end Go.Proofs.Ytagdbadljcongaa.X
end
