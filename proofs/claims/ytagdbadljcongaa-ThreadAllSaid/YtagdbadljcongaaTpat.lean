/- Texts behind ThreadAll, part 20: contracts of the program's functions and the plain words for them. -/
import Derived.Maps.RangeWalk
import Derived.Test.YtagdbadljcongaaTpaq
import Derived.Test.YtagdbadljcongaaTpar
import Derived.Test.YtagdbadljcongaaTpas
section
/- thread.Differ, thread.Same. -/
set_option linter.unusedVariables false
set_option linter.unusedSimpArgs false
namespace Go.Proofs.Ytagdbadljcongaa.X
open Go Go.RowKit Go.Proofs.YtagdbadljcongaaW.PrintWords Go.Proofs.YtagdbadljcongaaW.PrintLast Go.Proofs.YtagdbadljcongaaW.PrintMore
theorem toList_inj {a b : ByteArray} (h : a.toList = b.toList) : a = b := by
  rw [ByteArray.toList_eq, ByteArray.toList_eq] at h
  exact Go.WideShapes.bytes_inj h
/-- What Differ returns for two different words. -/
def DrPost (r : Option (List Nat)) (w : World) (e : Ending) (w' : World) : Prop := ∃ o, bl o = r.getD [] ∧ e = .returned (.tuple #[.string o, .int .i64 0]) ∧ Below w.heap.size w w'
set_option maxHeartbeats 4000000 in
set_option maxRecDepth 100000 in
theorem Differ_ok (u s : ByteArray) (w : World) (hu : isW (bl u) = true) (hs : isW (bl s) = true) (hne : u ≠ s) (r : Option (List Nat)) (hr : diffW (bl u) (bl s) = r) : Calls Try.prog 28 #[.string u, .string s] w (DrPost r w) := by
  have HU := Aside0.mk hu
  have HS := Aside0.mk hs
  have HS60 := Aside0.mk (show s.size ≤ 60 by rw [← bl_length]; exact ((isW_iff _).1 hs).1)
  have HU60 := Aside0.mk (show u.size ≤ 60 by rw [← bl_length]; exact ((isW_iff _).1 hu).1)
  have HRR := Aside0.mk hr
  have hq : ¬ u.toList = s.toList := fun e => hne (toList_inj e)
  have hq2 : (u.toList == s.toList) = false := by simpa using hq
  clear hu hs hr
  go_enter Try.func28, Try.ntmps28
  go_wp2_with (first | (go_at_call 48; (with_reducible refine (newWord_yes u _ HU.out).mono ?_); rintro e w1 ⟨rfl, hwd, hb⟩; have HWU := Aside0.mk hwd; have HB := Aside0.mk hb; clear hwd hb) | (go_at_call 48; (with_reducible refine (newWord_yes s _ HS.out).mono ?_); rintro e w2 ⟨rfl, hwd, hb⟩; have HWS := Aside0.mk hwd; have HWX := Aside0.mk (HWU.out.below hb); have HB2 := Aside0.mk hb; clear hwd hb) | (go_at_call 54; (with_reducible refine (differ_any u s _ _ _ HWX.out HWS.out HU60.out HS60.out r HRR.out).mono ?_); rintro e w3 ⟨o, ho, rfl, hb⟩; have HO := Aside0.mk ho; have HB3 := Aside0.mk hb; clear ho hb))
  go_ret2
  exact ⟨o, HO.out, rfl, below_step (below_step HB.out HB2.out) HB3.out⟩
end Go.Proofs.Ytagdbadljcongaa.X
end

section
/- slices.Contains over strings. -/
set_option linter.unusedVariables false
set_option linter.unusedSimpArgs false
namespace Go.Proofs.Ytagdbadljcongaa.X
open Go Go.RowKit Go.Proofs.YtagdbadljcongaaW.PrintWords Go.Proofs.YtagdbadljcongaaW.PrintLast Go.Proofs.YtagdbadljcongaaW.PrintMore
theorem rdOf_nat (l : List ByteArray) (i : Nat) (h : i < l.length) : rdOf ByteArray.empty l (i : Int) = l[i] := by unfold rdOf; simp [List.getD_eq_getElem?_getD, h]
theorem idx_ev (l : List ByteArray) (s : ByteArray) (hl : l.length ≤ 1000000) : ∀ d i, i + d = l.length → ∃ r, slices_Index_string_string.l0 (d + 1) l s (l.length : Int) (i : Int) = some r ∧ (0 ≤ r ↔ s ∈ l.drop i)
  | 0, i, h => by
    refine ⟨-1, ?_, ?_⟩
    · unfold slices_Index_string_string.l0; rw [if_neg (by omega)]
    · rw [List.drop_eq_nil_of_le (by omega)]; simp
  | d + 1, i, h => by
    have hi : i < l.length := by omega
    unfold slices_Index_string_string.l0
    rw [if_pos (by omega), if_pos (by omega), if_pos (by omega), rdOf_nat l i hi, List.drop_eq_getElem_cons hi]
    by_cases e : s.toList = l[i].toList
    · rw [if_pos e]
      exact ⟨_, rfl, iff_of_true (by omega) (by rw [toList_inj e]; exact List.mem_cons_self)⟩
    · rw [if_neg e]
      obtain ⟨r, h1, h2⟩ := idx_ev l s hl d (i + 1) (by omega)
      rw [show wrap64 ((i : Int) + 1) = ((i + 1 : Nat) : Int) by rw [IntWalk.wrap64_in _ (by omega)]; omega]
      refine ⟨r, h1, h2.trans ?_⟩
      rw [List.mem_cons]
      exact ⟨.inr, fun h => h.resolve_left (fun e2 => e (by rw [e2]))⟩
theorem cont_any (A : Option Addr) (c : Nat) (l : List ByteArray) (s : ByteArray) (w : World) (hC : Kd.C Kd.string w A l.length l) (hc : l.length ≤ c) (hl : l.length ≤ 1000000) (v : Bool) (hv : v = true ↔ s ∈ l) : Calls Try.prog 65 #[.slice A l.length c, .string s] w fun e w' => e = .returned (.bool v) ∧ Drawn0 w w' := by
  obtain ⟨r, h1, h2⟩ := idx_ev l s hl l.length 0 (by omega)
  rw [List.drop_zero] at h2
  refine slices_Contains_string_string.calls (l.length + 1) A c l s _ w hC hc ?_
  have h3 : slices_Index_string_string.f (l.length + 1) l s = some r := h1
  unfold slices_Contains_string_string.f
  rw [h3]
  show some (decide (r ≥ 0)) = some v
  congr 1
  rw [Bool.eq_iff_iff, decide_eq_true_iff, hv]
  exact h2
end Go.Proofs.Ytagdbadljcongaa.X
end

section
/- thread.Free: what holds ahead of, in and behind its range over a map. -/
set_option linter.unusedVariables false
set_option linter.unusedSimpArgs false
namespace Go.Proofs.Ytagdbadljcongaa.X
open Go Go.RowKit Go.Proofs.YtagdbadljcongaaW.PrintWords Go.Proofs.YtagdbadljcongaaW.PrintLast Go.Proofs.YtagdbadljcongaaW.PrintMore
theorem ones (L : List (List Nat)) : (L.map fun _ => 1).sum = L.length := by
  induction L with
  | nil => rfl
  | cons a r ih => simp only [List.map_cons, List.sum_cons, List.length_cons, ih]; omega
def notCells (V : World) (x : Nat) : Prop := ∀ cs t fr, V.heap[x]? ≠ some (.cells cs t fr)
theorem cells_past {V V' : World} {x g : Nat} {cs : Array Value} {t : TypeId} (hg : V.grownBy V' (some x)) (e : V.heap[g]? = some (.cells cs t (0, 0))) (hx : notCells V x) : V'.heap[g]? = some (.cells cs t (0, 0)) :=
  blk_grown e hg (fun e2 => by injection e2 with e2; subst e2; exact hx _ _ _ e)
theorem row_past {V V' : World} {x lo : Nat} {ok : Nat → Prop} {v : Value} {xs : List Int} (h : Kd.R (Kd.int .i64) 3 V lo ok v xs) (hg : V.grownBy V' (some x)) (hx : notCells V x) : Kd.R (Kd.int .i64) 3 V' lo ok v xs := by
  refine Kd.R_mono (Kd.R_move (Kd.R_bound h) (fun k hkk => ?_)) (fun k hkk => hkk.1)
  obtain ⟨_, _, hlt, q, _, cells, hc⟩ := hkk
  exact hg.block k hlt (fun e => by injection e with e; subst e; exact hx _ _ _ hc)
theorem MapIs.notCells {P : Program} {kt : TypeId} {w : World} {B n : Nat} {f : KMap} (h : MapIs P kt w B n f) : notCells w B := fun cs t fr e => by
  obtain ⟨D, ⟨es, clock, hb, _⟩, _⟩ := h.ex
  rw [hb] at e
  cases e
theorem ranges_notCells {H : Type} {P : Program} {k : TypeId} {R : Value → Option (DataW H × List MemPlace)} {w : World} {b r n : Nat} {D : DataW H} {left : Lit → Bool} {cnt : Nat} (h : w.ranges P k R b r n D left cnt) : notCells w r := fun cs t fr e => by
  obtain ⟨es, clock, since, seen, c0, _, _, _, _, hr, _⟩ := h
  rw [hr] at e
  cases e
/-- Between two rounds. -/
structure FrAt (w : World) (B : Nat) (T : List (List Nat)) (A : Option Addr) (c : Nat) (out : List Int) (V : World) : Prop where
  mp : ∃ n f, MapIs Try.prog 101 V B n f ∧ CntOf T f
  row : Kd.R (Kd.int .i64) 3 V w.heap.size (fun _ => True) (.slice A out.length c) out
  bel : Below w.heap.size w V
  lb : w.heap.size ≤ B
/-- In the range over the map. -/
structure FrR (w : World) (B r nn : Nat) (D : DataW Value) (left : Lit → Bool) (cnt B2 : Nat) (T : List (List Nat)) (A : Option Addr) (c : Nat) (out : List Int) (V : World) : Prop where
  rg : V.ranges Try.prog 101 anyElem B r nn D left cnt
  mp : ∃ n f, MapIs Try.prog 101 V B2 n f ∧ n ≤ T.length ∧ CntOf T f
  row : Kd.R (Kd.int .i64) 3 V w.heap.size (fun _ => True) (.slice A out.length c) out
  bel : Below w.heap.size w V
  ne : B2 ≠ B ∧ B2 ≠ r ∧ w.heap.size ≤ B2 ∧ w.heap.size ≤ r
section
variable {w : World} {B r nn : Nat} {D : DataW Value} {left left' : Lit → Bool} {cnt cnt' B2 : Nat} {T T' : List (List Nat)} {A : Option Addr} {c : Nat} {out : List Int} {V V' : World}
theorem FrR.below (h : FrR w B r nn D left cnt B2 T A c out V) (hb : Below V.heap.size V V') : FrR w B r nn D left cnt B2 T A c out V' := by
  obtain ⟨n, f, m1, m2, m3⟩ := h.mp
  exact ⟨h.rg.kept (grown_of_below hb none) (by simp) (by simp), ⟨n, f, m1.below hb, m2, m3⟩, Kd.R_below h.row hb, below_step h.bel hb, h.ne⟩
theorem FrR.iter (h : FrR w B r nn D left cnt B2 T A c out V) (hg : V.grownBy V' (some r)) (hr : V'.ranges Try.prog 101 anyElem B r nn D left' cnt') : FrR w B r nn D left' cnt' B2 T A c out V' := by
  obtain ⟨n, f, m1, m2, m3⟩ := h.mp
  exact ⟨hr, ⟨n, f, m1.kept hg (fun e => h.ne.2.1 (by injection e)), m2, m3⟩, row_past h.row hg (ranges_notCells h.rg), h.bel.grown hg h.bel.size (fun k e => by injection e with e; subst e; exact h.ne.2.2.2), h.ne⟩
theorem FrR.store (h : FrR w B r nn D left cnt B2 T A c out V) (hg : V.grownBy V' (some B2)) (hm : ∃ n f, MapIs Try.prog 101 V' B2 n f ∧ n ≤ T'.length ∧ CntOf T' f) : FrR w B r nn D left cnt B2 T' A c out V' := by
  obtain ⟨n, f, m1, m2, m3⟩ := h.mp
  exact ⟨h.rg.kept hg (fun e => h.ne.1 (by injection e with e; exact e.symm)) (fun e => h.ne.2.1 (by injection e with e; exact e.symm)), hm, row_past h.row hg m1.notCells, h.bel.grown hg h.bel.size (fun k e => by injection e with e; subst e; exact h.ne.2.2.1), h.ne⟩
end
theorem visit {L : List (List Nat)} {f : KMap} {D : DataW Value} {kl : Lit} {x c : Value} {y : DataW Value × List MemPlace} (hC : CntOf L f) (hD : ∀ kl z, D.atKey kl (.held z) = .held ((f kl).getD z)) (hk : keyOf Try.prog 101 x = some kl) (hy : anyElem c = some y) (hat : ∀ zd, D.atKey kl zd = y.1) :
    ∃ m ∈ L, Mk m ∧ kl = quadK m ∧ x = .agg (mcells m) ∧ c = .int .i64 ((L.count m : Nat) : Int) := by
  have h1 : ∀ z, (f kl).getD z = c := fun z => by
    have h := (hD kl z).symm.trans (hat (.held z))
    have hy2 : (DataW.held c, []) = y := Option.some.inj hy
    rw [← hy2] at h
    exact DataW.held.inj h
  cases hf : f kl with
  | none =>
    rw [hf] at h1
    have a : Value.bool true = c := h1 (.bool true)
    have b : Value.bool false = c := h1 (.bool false)
    have e := a.trans b.symm
    injection e with e
    cases e
  | some v =>
    rw [hf] at h1
    have hv : v = c := h1 v
    subst hv
    obtain ⟨m, hm, hM, rfl⟩ := hC.key kl v hf
    refine ⟨m, hm, hM, rfl, keyed101.inj hk (key101 m hM.1 hM.2), ?_⟩
    have := hC.at_ m hM
    rw [hf, if_neg (by have := List.count_pos_iff.2 hm; omega)] at this
    injection this
/-- Which marks have been visited. -/
structure Vis (L V : List (List Nat)) (left : Lit → Bool) : Prop where
  nd : V.Nodup
  sub : ∀ m ∈ V, m ∈ L
  lf : ∀ m ∈ L, left (quadK m) = true ↔ m ∉ V
theorem Vis.step {L V : List (List Nat)} {left : Lit → Bool} (h : Vis L V left) (hL : ∀ m ∈ L, Mk m) {m : List Nat} (hm : m ∈ L) (hl : left (quadK m) = true) : Vis L (V ++ [m]) (fun z => left z && !z.sameKey (quadK m)) ∧ m ∉ V := by
  have hn := (h.lf m hm).1 hl
  refine ⟨⟨?_, fun a ha => ?_, fun a ha => ?_⟩, hn⟩
  · rw [List.nodup_append]
    refine ⟨h.nd, by simp, fun a ha b hb e => ?_⟩
    rw [List.mem_singleton] at hb
    subst hb; subst e
    exact hn ha
  · rcases List.mem_append.1 ha with e | e
    · exact h.sub a e
    · rw [List.mem_singleton] at e; subst e; exact hm
  · have hk : WideAt.IsKeyLit (quadK m) := keyed101.key (key101 m (hL m hm).1 (hL m hm).2)
    rw [Bool.and_eq_true, h.lf a ha, List.mem_append, List.mem_singleton]
    constructor
    · rintro ⟨h1, h2⟩ (h3 | h3)
      · exact h1 h3
      · subst h3
        rw [WideAt.sameKey_self hk] at h2
        cases h2
    · intro h1
      refine ⟨fun e => h1 (.inl e), ?_⟩
      rw [Bool.not_eq_true']
      rw [Bool.eq_false_iff]
      intro e
      exact h1 (.inr (quadK_inj (hL a ha).1 (hL a ha).2 (hL m hm).1 (hL m hm).2 (WideAt.sameKey_eq e)))
end Go.Proofs.Ytagdbadljcongaa.X
end

section
/- thread.Free. -/
set_option linter.unusedVariables false
set_option linter.unusedSimpArgs false
namespace Go.Proofs.Ytagdbadljcongaa.X
open Go Go.RowKit Go.Proofs Go.Proofs.YtagdbadljcongaaW.PrintWords Go.Proofs.YtagdbadljcongaaW.PrintLast Go.Proofs.YtagdbadljcongaaW.PrintMore
attribute [local go_sem] Oper.semAt_some
theorem build101 (W : World) : (Instr.build 101 #[]).run Try.prog W = .ok (.agg #[.int .i64 0, .int .i64 0, .int .i64 0, .int .i64 0]) W := by kernel_rfl
theorem zero3 (W : World) : (zeroValue 3).run Try.prog W = .ok (.int .i64 0) W := by kernel_rfl
theorem mk0 : Mk [0, 0, 0, 0] := ⟨rfl, by simp⟩
/-- What Free returns. -/
def FrPost (R : List Nat) (w : World) (e : Ending) (w' : World) : Prop :=
  ∃ A c, e = .returned (.tuple #[.slice A R.length c, .int .i64 0]) ∧ Kd.R (Kd.int .i64) 3 w' w.heap.size (fun _ => True) (.slice A R.length c) (R.map fun (n : Nat) => (n : Int)) ∧ Below w.heap.size w w'
theorem nil_mem {l : List ByteArray} : (⟨#[]⟩ : ByteArray) ∈ l ↔ [] ∈ l.map bl := by
  rw [List.mem_map]
  constructor
  · exact fun h => ⟨_, h, rfl⟩
  · rintro ⟨s, h1, h2⟩
    have : s = ⟨#[]⟩ := by
      have h3 : s.size = 0 := by rw [← bl_length, h2]; rfl
      have h4 : s.data.size = 0 := h3
      have h5 : s.data = #[] := Array.eq_empty_of_size_eq_zero h4
      cases s
      simpa using h5
    rw [← this]; exact h1
set_option maxHeartbeats 8000000 in
set_option maxRecDepth 1000000 in
theorem free_ok (A : Option Addr) (c : Nat) (l : List ByteArray) (w : World) (hC : Kd.C Kd.string w A l.length l) (hc : l.length ≤ c) (hl : l.length ≤ 4) (hf : famB l = true) (k n : Nat) (hk : 1 ≤ k) (hk4 : k ≤ 4) (hn : n ≤ 30) :
    Calls Try.prog 43 #[.slice A l.length c, .int .i64 (k : Int), .int .i64 (n : Int)] w (FrPost (freeL (l.map bl) k n) w) := by
  have HC := Aside0.mk hC
  have HCC := Aside0.mk hc
  have HL := Aside0.mk hl
  have HK := Aside0.mk hk
  have HK4 := Aside0.mk hk4
  have HN := Aside0.mk hn
  have HF := Aside0.mk (show (decide (l.length ≤ 4) && famB l) = true by simp [hl, hf])
  have H8 := Aside0.mk (show ∀ s ∈ l, s.size ≤ 8 from fun s hs => by
    have := List.all_eq_true.1 hf s hs
    unfold fam1 at this
    simp at this
    exact this.2)
  obtain ⟨v, hv⟩ : ∃ v : Bool, v = true ↔ (⟨#[]⟩ : ByteArray) ∈ l := by classical exact ⟨decide ((⟨#[]⟩ : ByteArray) ∈ l), decide_eq_true_iff⟩
  have HV := Aside0.mk hv
  have hk1 : (1 : Int) ≤ (k : Int) := by omega
  have hk2 : (k : Int) ≤ 4 := by omega
  have hn1 : (0 : Int) ≤ (n : Int) := by omega
  have hn2 : (n : Int) ≤ 30 := by omega
  have hmm := @run_makeMap Try.prog
  clear hC hc hl hf hk hk4 hn hv
  go_enter Try.func43, Try.ntmps43
  go_upto_region 4 with (first | (go_at_call 58; (with_reducible refine (fam_any _ _ l _ HC.out (by have := HL.out; omega) _ HF.out).mono ?_); rintro e w1 ⟨rfl, hb⟩; have HB1 := Aside0.mk hb; clear hb) | (go_at_call 49; (with_reducible refine (within_y (k : Int) _ _ _ (by omega) (by omega)).mono ?_); rintro e w2 ⟨rfl, HD⟩; have HB2 := Aside0.mk HD.below; clear HD) | (go_at_call 49; (with_reducible refine (within_y (n : Int) _ _ _ (by omega) (by omega)).mono ?_); rintro e w3 ⟨rfl, HD⟩; have HB3 := Aside0.mk (below_step (below_step HB1.out HB2.out) HD.below); clear HD))
  obtain ⟨W1, hW1⟩ : ∃ W1, w3.alloc (.map #[] 0) = W1 := ⟨_, rfl⟩
  obtain ⟨B0, hB0⟩ : ∃ B0, w3.heap.size = B0 := ⟨_, rfl⟩
  have HM1 := Aside0.mk (show MapIs Try.prog 101 W1 B0 0 KMap.empty by rw [← hW1, ← hB0]; exact MapIs.made w3 Try.prog 101)
  have HBW := Aside0.mk (show Below w.heap.size w W1 by rw [← hW1]; exact below_alloc HB3.out _)
  have HBB := Aside0.mk (show w.heap.size ≤ B0 by rw [← hB0]; exact HB3.out.size)
  rw [hW1, hB0]
  clear hW1 hB0 HB1 HB2 HB3
  cases v
  case true =>
    go_upto_region 6 with (go_at_call 65; (with_reducible refine (cont_any _ _ l _ _ (Kd.C_below HC.out HBW.out) HCC.out (by have := HL.out; omega) true HV.out).mono ?_); rintro e w4 ⟨rfl, HD⟩; have HB4 := Aside0.mk HD.below; clear HD)
    have HST := Aside0.mk (show FrAt w B0 (lev (l.map bl) k 0) none 0 [] w4 by
      refine ⟨⟨0, KMap.empty, HM1.out.below HB4.out, ?_⟩, Kd.R_nil _ _ _ _ _, below_step HBW.out HB4.out, HBB.out⟩
      unfold lev
      rw [if_pos (nil_mem.1 (HV.out.1 (by first | rfl | trivial)))]
      exact CntOf.nil)
    clear HM1 HBW HBB HV HB4
    go_wp2
    go_loopw [8, 9, 38] (fun v8 v9 v38 wr => ∃ (i B : Nat) (A : Option Addr) (c : Nat) (xs : List Int), v38 = .int .i64 i ∧ v8 = .map (some B) ∧ v9 = .slice A xs.length c ∧ i ≤ n + 1 ∧ Aside0 (xs = (List.range i).map fun j => ((lev (l.map bl) k j).length : Int)) ∧ Aside0 (FrAt w B (lev (l.map bl) k i) A c xs wr)) (fun _ _ v38 _ => n + 1 - (intOf v38).toNat)
    case atStart => exact ⟨0, B0, none, 0, [], rfl, rfl, rfl, by omega, ⟨rfl⟩, HST⟩
    case round =>
      clear HST
      obtain ⟨i, B, A9, c9, xs, rfl, rfl, rfl, hi, HX, HA⟩ := hrel
      by_cases hlt : i < n + 1
      · have hltI : (i : Int) < (n : Int) + 1 := by omega
        have HLT := Aside0.mk hlt
        have HS8 := Aside0.mk (show ∀ x ∈ l.map bl, x.length ≤ 8 from fun x hx => by
          obtain ⟨s, h1, rfl⟩ := List.mem_map.1 hx
          rw [bl_length]; exact H8.out s h1)
        obtain ⟨L, hL⟩ : ∃ L, lev (l.map bl) k i = L := ⟨_, rfl⟩
        have HLO := Aside0.mk (show ∀ m ∈ L, MOk (l.map bl) m by rw [← hL]; exact lev_ok HS8.out k i)
        have HLN := Aside0.mk (show L.length ≤ 1152921504606846976 by
          rw [← hL]
          have h1 := lev_le (l.map bl) k HK4.out i
          have h2 : 4 ^ i ≤ 4 ^ 30 := Nat.pow_le_pow_right (by omega) (by have := HN.out; omega)
          exact Nat.le_trans h1 (Nat.le_trans h2 (by decide)))
        have HLE := Aside0.mk hL
        have HA1 := Aside0.mk (show FrAt w B L A9 c9 xs wr by rw [← hL]; exact HA.out)
        obtain ⟨nn, f, m1, hcnt⟩ := HA1.out.mp
        obtain ⟨D, hown, hhas, hat⟩ := m1.ex
        have HCN := Aside0.mk hcnt
        have HAT := Aside0.mk hat
        have HHA := Aside0.mk hhas
        have HOW := Aside0.mk hown
        clear hlt hL m1 hcnt hat hhas hown HA hi
        go_upto_region 11 with (fail)
        have HOW1 := Aside0.mk (HOW.out.alloc (.map #[] 0))
        have HM2 := Aside0.mk (MapIs.made wr Try.prog 101)
        have HB2 := Aside0.mk (show Below wr.heap.size wr (wr.alloc (.map #[] 0)) from below_alloc (Below.refl _ _) _)
        have HSZ := Aside0.mk (World.size_alloc wr (.map #[] 0))
        obtain ⟨B2, hB2⟩ : ∃ B2, wr.heap.size = B2 := ⟨_, rfl⟩
        obtain ⟨W1, hW1⟩ : ∃ W1, wr.alloc (.map #[] 0) = W1 := ⟨_, rfl⟩
        have HNE := Aside0.mk (show B2 ≠ B ∧ w.heap.size ≤ B2 ∧ B < W1.heap.size from ⟨by have := HOW.out.lt; omega, by rw [← hB2]; exact HA1.out.bel.size, by rw [← hW1]; have := HOW.out.lt; rw [HSZ.out]; omega⟩)
        rw [hW1] at HOW1 HM2 HB2 HSZ ⊢
        rw [hB2] at HM2 HSZ ⊢
        have HBL := Aside0.mk (show Below w.heap.size w W1 from below_step HA1.out.bel (by have := HB2.out; exact this))
        have HRW := Aside0.mk (Kd.R_below HA1.out.row (by have := HB2.out; exact this))
        clear hW1 hB2 HOW HB2
        go_wp2_with (at_range; refine wpList_range_own _ rfl (.tmp 41) 99 rfl 101 3 keyed101 Try.underlying99 anyElem B nn D rfl HOW1.out ?_; intro w0 hrg0 hg0 hs0; have HR0 := Aside0.mk hrg0; have HG0 := Aside0.mk hg0; clear hrg0 hg0 hs0)
        go_frame
        obtain ⟨r0, hr0⟩ : ∃ r0, W1.heap.size = r0 := ⟨_, rfl⟩
        have HR1 := Aside0.mk (show w0.ranges Try.prog 101 anyElem B r0 nn D (Maps.has D) (Maps.size D) by rw [← hr0]; exact HR0.out)
        have HNR := Aside0.mk (show B2 ≠ r0 ∧ w.heap.size ≤ r0 from ⟨by rw [← hr0, HSZ.out]; omega, by rw [← hr0]; exact HBL.out.size⟩)
        have H0 := Aside0.mk (show FrR w B r0 nn D (Maps.has D) (Maps.size D) B2 (acc L (fun m => gos (l.map bl) m k) []) A9 c9 xs w0 from
          ⟨HR1.out, ⟨0, KMap.empty, HM2.out.kept HG0.out (by simp), by omega, CntOf.nil⟩, Kd.R_grown HRW.out HG0.out (by simp), HBL.out.grown HG0.out HBL.out.size (fun j e => by cases e), ⟨HNE.out.1, HNR.out.1, HNE.out.2.1, HNR.out.2⟩⟩)
        have HV0 := Aside0.mk (show Vis L [] (Maps.has D) from ⟨by simp, by simp, fun m hm => by
          have hM := (HLO.out m hm).mk'
          rw [HHA.out, HCN.out.at_ m hM, if_neg (by have := List.count_pos_iff.2 hm; omega)]
          simp⟩)
        rw [hr0]
        clear hr0 HR0 HR1 HOW1 HM2 HG0 HBL HRW HNE HNR HSZ HHA
        go_loopw [10] (fun v10 wq => ∃ (V : List (List Nat)) (left : Lit → Bool) (cnt : Nat), v10 = .int .i64 (((V.map fun m => L.count m).sum : Nat) : Int) ∧ Aside0 (Vis L V left) ∧ Aside0 (FrR w B r0 nn D left cnt B2 (acc L (fun m => gos (l.map bl) m k) V) A9 c9 xs wq)) (fun _ wq => wq.rangeLeft B r0)
        case atStart => exact ⟨[], _, _, rfl, HV0, H0⟩
        case round =>
          clear H0 HV0
          obtain ⟨V, left, cnt, rfl, HVI, HFR⟩ := hrel
          obtain ⟨S0, hS0⟩ : ∃ S0, (V.map fun m => L.count m).sum = S0 := ⟨_, rfl⟩
          have HS0 := Aside0.mk hS0
          rw [hS0]
          clear hS0
          go_wp2_with (at_next; refine wpList_next_ranges _ rfl (.tmp 42) rfl 101 keyed101 anyElem (fun x : Value => x) (fun x : Value => x) (fun key _ _ => ⟨key, rfl⟩) (fun v _ _ => ⟨v, rfl⟩) B r0 nn D left cnt rfl HFR.out.rg ?_ ?_)
          · intro hc0 hl0
            have hall : ∀ m ∈ L, m ∈ V := fun m hm => Classical.byContradiction fun hn => by
              have := (HVI.out.lf m hm).2 hn
              rw [hl0] at this
              cases this
            have HLV := Aside0.mk (show ∀ a, (acc L (fun m => gos (l.map bl) m k) V).count a = (lev (l.map bl) k (i + 1)).count a from fun a => by
              rw [acc_count HVI.out.nd hall, ← HLE.out]
              rfl)
            have HSL := Aside0.mk (show S0 = L.length by
              have h := sum_cover HVI.out.nd (fun _ => 1) L hall
              rw [ones] at h
              rw [← HS0.out, ← h]
              simp)
            have hxl : xs.length = i := by rw [HX.out]; simp
            have KEY := Aside0.mk (app_int (x := (S0 : Int)) HFR.out.row HFR.out.bel HFR.out.bel.size (fun _ _ => trivial) (by rw [hxl]; have := HLT.out; have := HN.out; omega) 73 75)
            have HXL := Aside0.mk hxl
            clear hc0 hl0 hall hxl
            go_wp2_with (at_builtin; refine KEY.out _ _ _ _ _ rfl rfl rfl rfl ?_; intro A3 c3 w3 hr3 hb3 hg3 hat3; have HR3 := Aside0.mk hr3; have HB3 := Aside0.mk hb3; have HG3 := Aside0.mk hg3; clear hr3 hb3 hg3 hat3)
            go_roundw
            case rel => exact ⟨i + 1, B2, A3, c3, xs ++ [(S0 : Int)], by go_num, rfl, by simp, by have := HLT.out; omega, ⟨by
              rw [List.range_succ, List.map_append, ← HX.out]
              simp only [List.map_cons, List.map_nil]
              rw [HLE.out, HSL.out]⟩, ⟨by
              obtain ⟨n2, f2, m2, _, h2⟩ := HFR.out.mp
              refine ⟨⟨n2, f2, m2.kept HG3.out (fun e => ?_), h2.perm HLV.out⟩, by rw [List.length_append]; exact HR3.out, HB3.out, HFR.out.ne.2.2.1⟩
              obtain ⟨cells, hc⟩ := Kd.R_typed HFR.out.row _ e.symm
              exact m2.notCells _ _ _ hc⟩⟩
            case measure => simp [intOf]; have := HLT.out; omega
          · intro x cv kl y1 y2 w1 cnt1 hkey hlk hv hat1 hrg1 hlt1 hg1 hs1 hen
            obtain ⟨m, hm, hM, rfl, rfl, rfl⟩ := visit (y := (y1, y2)) HCN.out HAT.out hkey hv hat1
            have HMM := Aside0.mk hm
            have HMO := Aside0.mk (HLO.out m hm)
            obtain ⟨hvs, hnv⟩ := HVI.out.step (fun m hm => (HLO.out m hm).mk') hm hlk
            have HVS := Aside0.mk hvs
            have HLT1 := Aside0.mk hlt1
            have HF1 := Aside0.mk (HFR.out.iter hg1 hrg1)
            obtain ⟨cm, hcm⟩ : ∃ cm, L.count m = cm := ⟨_, rfl⟩
            have HCM := Aside0.mk hcm
            have HCP := Aside0.mk (show 0 < cm by rw [← hcm]; exact List.count_pos_iff.2 hm)
            have HSB := Aside0.mk (show S0 + cm ≤ 1152921504606846976 by
              have h := sum_sub hvs.nd L
              rw [List.map_append, List.sum_append, HS0.out] at h
              have := HLN.out
              simp [hcm] at h
              omega)
            have hsb : (S0 : Int) + (cm : Int) ≤ 1152921504606846976 := by have := HSB.out; omega
            obtain ⟨m0, m1, m2, m3, e4⟩ := four HMO.out.len
            have HE4 := Aside0.mk e4
            have mc : mcells [m0, m1, m2, m3] = #[.int .i64 (m0 : Int), .int .i64 (m1 : Int), .int .i64 (m2 : Int), .int .i64 (m3 : Int)] := rfl
            rw [hcm, e4, mc] at hen
            rw [hcm, e4, mc]
            clear hkey hlk hv hat1 hrg1 hlt1 hg1 hs1 hm hM mc hvs hnv hcm e4
            go_wp2
            obtain ⟨gm, hgm⟩ : ∃ gm, w1.heap.size = gm := ⟨_, rfl⟩
            obtain ⟨W2, hW2⟩ : ∃ W2, w1.alloc (.cells #[.int .i64 (m0 : Int), .int .i64 (m1 : Int), .int .i64 (m2 : Int), .int .i64 (m3 : Int)] 101) = W2 := ⟨_, rfl⟩
            have HGM := Aside0.mk (show W2.heap[gm]? = some (.cells #[.int .i64 (m0 : Int), .int .i64 (m1 : Int), .int .i64 (m2 : Int), .int .i64 (m3 : Int)] 101 (0, 0)) by rw [← hW2, ← hgm]; exact blk_new _ _)
            have HF2 := Aside0.mk (show FrR w B r0 nn D (fun z => left z && !z.sameKey (quadK m)) cnt1 B2 (acc L (fun m => gos (l.map bl) m k) V ++ (gos (l.map bl) m 0).flatMap fun t => List.replicate cm t) A9 c9 xs W2 by
              have h := HF1.out.below (V' := W2) (by rw [← hW2]; exact below_alloc (Below.refl _ _) _)
              simpa [gos] using h)
            rw [hW2, hgm]
            clear hW2 hgm hen
            go_loopw [52] (fun v52 wz => ∃ cc : Nat, v52 = .int .i64 cc ∧ cc ≤ k ∧ Aside0 (wz.heap[gm]? = some (.cells #[.int .i64 (m0 : Int), .int .i64 (m1 : Int), .int .i64 (m2 : Int), .int .i64 (m3 : Int)] 101 (0, 0))) ∧ Aside0 (FrR w B r0 nn D (fun z => left z && !z.sameKey (quadK m)) cnt1 B2 (acc L (fun m => gos (l.map bl) m k) V ++ (gos (l.map bl) m cc).flatMap fun t => List.replicate cm t) A9 c9 xs wz)) (fun v52 _ => k - (intOf v52).toNat)
            case atStart => exact ⟨0, rfl, by omega, HGM, HF2⟩
            case round =>
              clear HGM HF2
              obtain ⟨cc, rfl, hcc, HGM, HF2⟩ := hrel
              by_cases hlt : cc < k
              · have hltI : (cc : Int) < (k : Int) := by omega
                have c1 : wr.cell? ⟨gm, 0, none⟩ = some (.int .i64 (m0 : Int)) := (blk_cell HGM.out 0).trans rfl
                have c2 : wr.cell? ⟨gm, 1, none⟩ = some (.int .i64 (m1 : Int)) := (blk_cell HGM.out 1).trans rfl
                have c3 : wr.cell? ⟨gm, 2, none⟩ = some (.int .i64 (m2 : Int)) := (blk_cell HGM.out 2).trans rfl
                have c4 : wr.cell? ⟨gm, 3, none⟩ = some (.int .i64 (m3 : Int)) := (blk_cell HGM.out 3).trans rfl
                have hcv : IntKind.u8.wrap (97 + (cc : Int)) = 97 + (cc : Int) := by
                  have h1 : (cc : Int) < 4 := by omega
                  have h0 : (0 : Int) ≤ (cc : Int) := by omega
                  show (97 + (cc : Int)) % 256 = 97 + (cc : Int)
                  omega
                have hcc4 : cc < 4 := by have := HK4.out; omega
                obtain ⟨ra, hra⟩ : ∃ ra, aft (l.map bl) m (97 + cc) = ra := ⟨_, rfl⟩
                have HRA := Aside0.mk hra
                have HLT2 := Aside0.mk hlt
                have AF := Aside0.mk (show Calls Try.prog 66 #[.agg #[.int .i64 (m0 : Int), .int .i64 (m1 : Int), .int .i64 (m2 : Int), .int .i64 (m3 : Int)], .slice A l.length c, .int .u8 (97 + (cc : Int))] wr (AfPost ra wr) from by
                  have h := after_m A c l wr (Kd.C_below HC.out HF2.out.bel) HL.out H8.out m HMO.out cc hcc4 ra hra
                  rw [HE4.out] at h
                  exact h)
                clear hlt hra hcc
                go_upto_region 19 with (go_at_call 66; (with_reducible refine AF.out.mono ?_); rintro e w5 ⟨b0, b1, b2, b3, rfl, hb4, hb⟩; have HB4 := Aside0.mk hb4; have HB5 := Aside0.mk hb; clear hb4 hb)
                have HGM5 := Aside0.mk (blk_alloc (blk_below HGM.out HB5.out) (.cells #[.int .i64 (b0 : Int), .int .i64 (b1 : Int), .int .i64 (b2 : Int), .int .i64 (b3 : Int)] 101))
                have HF5 := Aside0.mk (HF2.out.below (V' := w5.alloc (.cells #[.int .i64 (b0 : Int), .int .i64 (b1 : Int), .int .i64 (b2 : Int), .int .i64 (b3 : Int)] 101)) (below_alloc HB5.out _))
                have HGT := Aside0.mk (blk_new w5 (.cells #[.int .i64 (b0 : Int), .int .i64 (b1 : Int), .int .i64 (b2 : Int), .int .i64 (b3 : Int)] 101))
                obtain ⟨gt, hgt⟩ : ∃ gt, w5.heap.size = gt := ⟨_, rfl⟩
                obtain ⟨W6, hW6⟩ : ∃ W6, w5.alloc (.cells #[.int .i64 (b0 : Int), .int .i64 (b1 : Int), .int .i64 (b2 : Int), .int .i64 (b3 : Int)] 101) = W6 := ⟨_, rfl⟩
                rw [hW6] at HGM5 HF5 HGT ⊢
                rw [hgt] at HGT ⊢
                clear hW6 hgt HB5 AF c1 c2 c3 c4 hcv
                cases ra with
                | none =>
                  go_wp2
                  go_roundw
                  case rel => exact ⟨cc + 1, by go_num, by have := HLT2.out; omega, HGM5, ⟨by
                    rw [gos_succ, HRA.out]
                    simpa using HF5.out⟩⟩
                  case measure => simp [intOf]; have := HLT2.out; omega
                | some t =>
                  have ht : t = [b0, b1, b2, b3] := HB4.out t (by first | rfl | trivial)
                  have HTO := Aside0.mk (aft_ok HS8.out HMO.out HRA.out)
                  obtain ⟨T, hT⟩ : ∃ T, (acc L (fun m => gos (l.map bl) m k) V ++ (gos (l.map bl) m cc).flatMap fun t => List.replicate cm t) = T := ⟨_, rfl⟩
                  have HTL := Aside0.mk (show T.length ≤ 4611686018427387904 by
                    have h1 := acc_le L (fun m => gos (l.map bl) m k) 4 V (fun m _ => Nat.le_trans (gos_len _ _ _) HK4.out)
                    have h2 := gos_len (l.map bl) m cc
                    have h3 := Nat.mul_le_mul_left cm (Nat.le_trans h2 (Nat.le_of_lt hcc4))
                    rw [HS0.out] at h1
                    have h4 := HSB.out
                    rw [← hT, List.length_append, length_rep]
                    omega)
                  have HF6 := Aside0.mk (show FrR w B r0 nn D (fun z => left z && !z.sameKey (quadK m)) cnt1 B2 T A9 c9 xs W6.drew by rw [← hT]; exact HF5.out.below (below_drew (Below.refl _ _)))
                  have HTT := Aside0.mk (show ∀ V', FrR w B r0 nn D (fun z => left z && !z.sameKey (quadK m)) cnt1 B2 (T ++ List.replicate cm t) A9 c9 xs V' → FrR w B r0 nn D (fun z => left z && !z.sameKey (quadK m)) cnt1 B2 (acc L (fun m => gos (l.map bl) m k) V ++ (gos (l.map bl) m (cc + 1)).flatMap fun t => List.replicate cm t) A9 c9 xs V' from fun V' h => by
                    rw [gos_succ, HRA.out, List.flatMap_append, ← List.append_assoc, hT]
                    simpa using h)
                  obtain ⟨n2, f2, m2, hn2, hc2⟩ := HF6.out.mp
                  have hMk := HTO.out.mk'
                  obtain ⟨ct, hct⟩ : ∃ ct, T.count t = ct := ⟨_, rfl⟩
                  have hcl : ct ≤ T.length := by rw [← hct]; exact List.count_le_length
                  obtain ⟨st, W7, r7, m7, g7, hst⟩ := m2.entry (t := 99) (e := 3) law101 Try.underlying99 (by have := HTL.out; unfold maxLen; omega) zero3 (key101 t hMk.1 hMk.2)
                  obtain ⟨W8, r8, m8, g8⟩ := hst (.int .i64 ((ct : Int) + (cm : Int)))
                  have lk6 := m2.look (t := 99) (e := 3) keyed101 Try.underlying99 (zero3 _) (key101 t hMk.1 hMk.2)
                  have lk7 := m7.look (t := 99) (e := 3) keyed101 Try.underlying99 (zero3 _) (key101 t hMk.1 hMk.2)
                  rw [KMap.put_same f2 (keyed101.key (key101 t hMk.1 hMk.2))] at lk7
                  rw [hc2.getD hMk, hct] at lk6 r7 lk7
                  have HF8 := Aside0.mk (HF6.out.store g8 (T' := T ++ List.replicate cm t) ⟨n2 + 1, _, m8, by have := HCP.out; simp; omega, by rw [← hct]; exact hc2.push hMk HCP.out⟩)
                  have HGM8 := Aside0.mk (cells_past g8 (show W6.drew.heap[gm]? = _ from HGM5.out) m2.notCells)
                  have HGT7 := Aside0.mk (cells_past g7 (show W6.drew.heap[gt]? = _ from HGT.out) m2.notCells)
                  rw [ht] at r7 lk6 lk7
                  replace lk6 : (Instr.lookup 99 (.map (some B2)) (.agg #[.int .i64 (b0 : Int), .int .i64 (b1 : Int), .int .i64 (b2 : Int), .int .i64 (b3 : Int)]) false).run Try.prog W6.drew = .ok (.int .i64 (ct : Int)) W6.drew := lk6
                  replace lk7 : (Instr.lookup 99 (.map (some B2)) (.agg #[.int .i64 (b0 : Int), .int .i64 (b1 : Int), .int .i64 (b2 : Int), .int .i64 (b3 : Int)]) false).run Try.prog W7 = .ok (.int .i64 (ct : Int)) W7 := lk7
                  replace r7 : (Instr.mapEntry 99 (.map (some B2)) (.agg #[.int .i64 (b0 : Int), .int .i64 (b1 : Int), .int .i64 (b2 : Int), .int .i64 (b3 : Int)])).run Try.prog W6.drew = .ok (.tuple #[.int .i64 (ct : Int), st]) W7 := r7
                  have c9 : IntKind.i64.wrap ((ct : Int) + (cm : Int)) = (ct : Int) + (cm : Int) := IntWalk.i64_in _ (by have := HTL.out; have := HSB.out; omega)
                  have q0 : W6.drew.cell? ⟨gt, 0, none⟩ = some (.int .i64 (b0 : Int)) := (blk_cell (show W6.drew.heap[gt]? = _ from HGT.out) 0).trans rfl
                  have q1 : W6.drew.cell? ⟨gt, 1, none⟩ = some (.int .i64 (b1 : Int)) := (blk_cell (show W6.drew.heap[gt]? = _ from HGT.out) 1).trans rfl
                  have q2 : W6.drew.cell? ⟨gt, 2, none⟩ = some (.int .i64 (b2 : Int)) := (blk_cell (show W6.drew.heap[gt]? = _ from HGT.out) 2).trans rfl
                  have q3 : W6.drew.cell? ⟨gt, 3, none⟩ = some (.int .i64 (b3 : Int)) := (blk_cell (show W6.drew.heap[gt]? = _ from HGT.out) 3).trans rfl
                  have p0 : W7.cell? ⟨gt, 0, none⟩ = some (.int .i64 (b0 : Int)) := (blk_cell HGT7.out 0).trans rfl
                  have p1 : W7.cell? ⟨gt, 1, none⟩ = some (.int .i64 (b1 : Int)) := (blk_cell HGT7.out 1).trans rfl
                  have p2 : W7.cell? ⟨gt, 2, none⟩ = some (.int .i64 (b2 : Int)) := (blk_cell HGT7.out 2).trans rfl
                  have p3 : W7.cell? ⟨gt, 3, none⟩ = some (.int .i64 (b3 : Int)) := (blk_cell HGT7.out 3).trans rfl
                  clear hn2 hc2 m2 hMk hct hcl m7 g7 hst m8 g8 hT ht
                  go_upto_region 20 with (fail)
                  refine start_ (n := 8) (S := fun w' => (Instr.lookup 99 (.map (some B2)) (.agg #[.int .i64 (b0 : Int), .int .i64 (b1 : Int), .int .i64 (b2 : Int), .int .i64 (b3 : Int)]) false).run Try.prog w' = .ok (.int .i64 (ct : Int)) w' ∧ w'.cell? ⟨gt, 0, none⟩ = some (.int .i64 (b0 : Int)) ∧ w'.cell? ⟨gt, 1, none⟩ = some (.int .i64 (b1 : Int)) ∧ w'.cell? ⟨gt, 2, none⟩ = some (.int .i64 (b2 : Int)) ∧ w'.cell? ⟨gt, 3, none⟩ = some (.int .i64 (b3 : Int))) (ds := [7]) #[false, false, false, false, false, false, false, false] (by kernel_rfl) rfl rfl ⟨lk6, q0, q1, q2, q3⟩ (fun hHeld => ?_)
                  refine pure_ (i := 0) (N := (some 65)) (v := ?_) (a' := ?_) #[true, false, false, false, false, false, false, false] rfl rfl (by kernel_rfl) (fun _ _ _ h => h) (Or.inl ⟨by rfl, ?_⟩) ?_ ?_
                  rotate_left
                  · intro w'
                    go_simp
                    with_reducible rfl
                  rotate_left
                  · simp only [Act.put, List.setIfInBounds_toArray, List.set_cons_zero, List.set_cons_succ, i64_w, i32_w]
                    rfl
                  refine take_ (i := 1) (N := (some 66)) (v := ?_) (a' := ?_) #[true, true, false, false, false, false, false, false] rfl rfl (by kernel_rfl) (fun _ _ _ h => h) (Or.inl ⟨by rfl, ?_⟩) hHeld ?_ ?_
                  rotate_left
                  · rintro w' ⟨s0, s1, s2, s3, s4⟩
                    go_simp
                    with_reducible rfl
                  rotate_left
                  · simp only [Act.put, List.setIfInBounds_toArray, List.set_cons_zero, List.set_cons_succ, i64_w, i32_w]
                    rfl
                  refine take_ (i := 2) (N := (some 67)) (v := ?_) (a' := ?_) #[true, true, true, false, false, false, false, false] rfl rfl (by kernel_rfl) (fun _ _ _ h => h) (Or.inl ⟨by rfl, ?_⟩) hHeld ?_ ?_
                  rotate_left
                  · rintro w' ⟨s0, s1, s2, s3, s4⟩
                    go_simp
                    with_reducible rfl
                  rotate_left
                  · simp only [Act.put, List.setIfInBounds_toArray, List.set_cons_zero, List.set_cons_succ, i64_w, i32_w]
                    rfl
                  refine pure_ (i := 3) (N := (some 68)) (v := ?_) (a' := ?_) #[true, true, true, true, false, false, false, false] rfl rfl (by kernel_rfl) (fun _ _ _ h => h) (Or.inl ⟨by rfl, ?_⟩) ?_ ?_
                  rotate_left
                  · intro w'
                    go_simp
                    with_reducible rfl
                  rotate_left
                  · simp only [Act.put, List.setIfInBounds_toArray, List.set_cons_zero, List.set_cons_succ, i64_w, i32_w]
                    rfl
                  refine pure_ (i := 4) (N := (some 69)) (v := ?_) (a' := ?_) #[true, true, true, true, true, false, false, false] rfl rfl (by kernel_rfl) (fun _ _ _ h => h) (Or.inl ⟨by rfl, ?_⟩) ?_ ?_
                  rotate_left
                  · intro w'
                    go_simp
                    with_reducible rfl
                  rotate_left
                  · simp only [Act.put, List.setIfInBounds_toArray, List.set_cons_zero, List.set_cons_succ, i64_w, i32_w]
                    rfl
                  refine one_ (i := 5) (N := (some 70)) #[true, true, true, true, true, true, false, false] rfl rfl (by kernel_rfl) (by decide) (fun K hK => ?_)
                  refine value_ (w1 := ?_) (v := ?_) (by rfl) rfl ?_ ?_
                  rotate_left 2
                  · go_simp
                    constructor
                    · rfl
                    · rfl
                  refine hK.out _ _ ⟨lk7, p0, p1, p2, p3⟩ (fun hHeld => ?_)
                  clear hK K
                  refine norm_ (a' := ?_) ?_ ?_
                  rotate_left
                  · show Act.put _ (some 70) _ = _
                    simp only [Act.put, List.setIfInBounds_toArray, List.set_cons_zero, List.set_cons_succ, i64_w, i32_w]
                    rfl
                  refine pure_ (i := 6) (N := (some 71)) (v := ?_) (a' := ?_) #[true, true, true, true, true, true, true, false] rfl rfl (by kernel_rfl) (fun _ _ _ h => h) (Or.inl ⟨by rfl, ?_⟩) ?_ ?_
                  rotate_left
                  · intro w'
                    go_simp
                    with_reducible rfl
                  rotate_left
                  · simp only [Act.put, List.setIfInBounds_toArray, List.set_cons_zero, List.set_cons_succ, i64_w, i32_w]
                    rfl
                  refine last_ (i := 7) (N := none) #[true, true, true, true, true, true, true, true] rfl rfl (by kernel_rfl) (by decide) (fun K hK => ?_)
                  refine skip_ (w1 := ?_) (by rfl) rfl ?_ ?_
                  rotate_left
                  · go_simp
                    rfl
                  refine hK.out _ _ ?_
                  clear hK K
                  refine done_ (by kernel_rfl) ?_
                  go_wp2
                  go_roundw
                  case rel => exact ⟨cc + 1, by go_num, by have := HLT2.out; omega, HGM8, ⟨HTT.out _ HF8.out⟩⟩
                  case measure => simp [intOf]; have := HLT2.out; omega
              · have hltI : ¬ ((cc : Int) < (k : Int)) := by omega
                have hce : cc = k := by omega
                subst hce
                clear hlt
                go_wp2
                go_roundw
                case rel => exact ⟨V ++ [m], _, cnt1, by rw [List.map_append, List.sum_append, HS0.out]; simp [HCM.out], HVS, ⟨by
                  have h := HF2.out
                  rw [acc_snoc, HCM.out]
                  exact h⟩⟩
                case measure =>
                  rw [HF2.out.rg.left_eq, HFR.out.rg.left_eq]
                  exact HLT1.out
      · have hltI : ¬ ((i : Int) < (n : Int) + 1) := by omega
        have hin : i = n + 1 := by omega
        subst hin
        clear hlt
        go_wp2
        go_ret2
        have hxl : xs.length = (freeL (l.map bl) k n).length := by rw [HX.out]; simp [freeL]
        have hxm : xs = (freeL (l.map bl) k n).map fun (n : Nat) => (n : Int) := by rw [HX.out]; unfold freeL; rw [List.map_map]; rfl
        refine ⟨A9, c9, by rw [← hxl]; rfl, ?_, HA.out.bel⟩
        rw [← hxl, ← hxm]
        exact HA.out.row
  case false =>
    go_upto_region 5 with (go_at_call 65; (with_reducible refine (cont_any _ _ l _ _ (Kd.C_below HC.out HBW.out) HCC.out (by have := HL.out; omega) false HV.out).mono ?_); rintro e w4 ⟨rfl, HD⟩; have HB4 := Aside0.mk HD.below; clear HD)
    obtain ⟨Wx, st, m2, g2⟩ := (HM1.out.below HB4.out).store (t := 99) (e := 3) keyed101 Try.underlying99 (by decide) (val := .int .i64 1) (key101 [0, 0, 0, 0] rfl (by simp))
    replace st : (Instr.mapUpdate 99 (.map (some B0)) (.agg #[.int .i64 0, .int .i64 0, .int .i64 0, .int .i64 0]) (.int .i64 1)).run Try.prog w4 = .ok () Wx := st
    have bl0 := build101
    have HST := Aside0.mk (show FrAt w B0 (lev (l.map bl) k 0) none 0 [] Wx by
      refine ⟨⟨_, _, m2, ?_⟩, Kd.R_nil _ _ _ _ _, (below_step HBW.out HB4.out).grown g2 (below_step HBW.out HB4.out).size (fun j e => by injection e with e; subst e; exact HBB.out), HBB.out⟩
      unfold lev
      rw [if_neg (fun h => by have := HV.out.2 (nil_mem.2 h); simp at this)]
      exact CntOf.nil.push mk0 (n := 1) (by omega))
    clear m2 g2
    go_upto_region 6 with (fail)
    clear HM1 HBW HBB HV HB4 st bl0
    go_wp2
    go_loopw [8, 9, 38] (fun v8 v9 v38 wr => ∃ (i B : Nat) (A : Option Addr) (c : Nat) (xs : List Int), v38 = .int .i64 i ∧ v8 = .map (some B) ∧ v9 = .slice A xs.length c ∧ i ≤ n + 1 ∧ Aside0 (xs = (List.range i).map fun j => ((lev (l.map bl) k j).length : Int)) ∧ Aside0 (FrAt w B (lev (l.map bl) k i) A c xs wr)) (fun _ _ v38 _ => n + 1 - (intOf v38).toNat)
    case atStart => exact ⟨0, B0, none, 0, [], rfl, rfl, rfl, by omega, ⟨rfl⟩, HST⟩
    case round =>
      clear HST
      obtain ⟨i, B, A9, c9, xs, rfl, rfl, rfl, hi, HX, HA⟩ := hrel
      by_cases hlt : i < n + 1
      · have hltI : (i : Int) < (n : Int) + 1 := by omega
        have HLT := Aside0.mk hlt
        have HS8 := Aside0.mk (show ∀ x ∈ l.map bl, x.length ≤ 8 from fun x hx => by
          obtain ⟨s, h1, rfl⟩ := List.mem_map.1 hx
          rw [bl_length]; exact H8.out s h1)
        obtain ⟨L, hL⟩ : ∃ L, lev (l.map bl) k i = L := ⟨_, rfl⟩
        have HLO := Aside0.mk (show ∀ m ∈ L, MOk (l.map bl) m by rw [← hL]; exact lev_ok HS8.out k i)
        have HLN := Aside0.mk (show L.length ≤ 1152921504606846976 by
          rw [← hL]
          have h1 := lev_le (l.map bl) k HK4.out i
          have h2 : 4 ^ i ≤ 4 ^ 30 := Nat.pow_le_pow_right (by omega) (by have := HN.out; omega)
          exact Nat.le_trans h1 (Nat.le_trans h2 (by decide)))
        have HLE := Aside0.mk hL
        have HA1 := Aside0.mk (show FrAt w B L A9 c9 xs wr by rw [← hL]; exact HA.out)
        obtain ⟨nn, f, m1, hcnt⟩ := HA1.out.mp
        obtain ⟨D, hown, hhas, hat⟩ := m1.ex
        have HCN := Aside0.mk hcnt
        have HAT := Aside0.mk hat
        have HHA := Aside0.mk hhas
        have HOW := Aside0.mk hown
        clear hlt hL m1 hcnt hat hhas hown HA hi
        go_upto_region 11 with (fail)
        have HOW1 := Aside0.mk (HOW.out.alloc (.map #[] 0))
        have HM2 := Aside0.mk (MapIs.made wr Try.prog 101)
        have HB2 := Aside0.mk (show Below wr.heap.size wr (wr.alloc (.map #[] 0)) from below_alloc (Below.refl _ _) _)
        have HSZ := Aside0.mk (World.size_alloc wr (.map #[] 0))
        obtain ⟨B2, hB2⟩ : ∃ B2, wr.heap.size = B2 := ⟨_, rfl⟩
        obtain ⟨W1, hW1⟩ : ∃ W1, wr.alloc (.map #[] 0) = W1 := ⟨_, rfl⟩
        have HNE := Aside0.mk (show B2 ≠ B ∧ w.heap.size ≤ B2 ∧ B < W1.heap.size from ⟨by have := HOW.out.lt; omega, by rw [← hB2]; exact HA1.out.bel.size, by rw [← hW1]; have := HOW.out.lt; rw [HSZ.out]; omega⟩)
        rw [hW1] at HOW1 HM2 HB2 HSZ ⊢
        rw [hB2] at HM2 HSZ ⊢
        have HBL := Aside0.mk (show Below w.heap.size w W1 from below_step HA1.out.bel (by have := HB2.out; exact this))
        have HRW := Aside0.mk (Kd.R_below HA1.out.row (by have := HB2.out; exact this))
        clear hW1 hB2 HOW HB2
        go_wp2_with (at_range; refine wpList_range_own _ rfl (.tmp 41) 99 rfl 101 3 keyed101 Try.underlying99 anyElem B nn D rfl HOW1.out ?_; intro w0 hrg0 hg0 hs0; have HR0 := Aside0.mk hrg0; have HG0 := Aside0.mk hg0; clear hrg0 hg0 hs0)
        go_frame
        obtain ⟨r0, hr0⟩ : ∃ r0, W1.heap.size = r0 := ⟨_, rfl⟩
        have HR1 := Aside0.mk (show w0.ranges Try.prog 101 anyElem B r0 nn D (Maps.has D) (Maps.size D) by rw [← hr0]; exact HR0.out)
        have HNR := Aside0.mk (show B2 ≠ r0 ∧ w.heap.size ≤ r0 from ⟨by rw [← hr0, HSZ.out]; omega, by rw [← hr0]; exact HBL.out.size⟩)
        have H0 := Aside0.mk (show FrR w B r0 nn D (Maps.has D) (Maps.size D) B2 (acc L (fun m => gos (l.map bl) m k) []) A9 c9 xs w0 from
          ⟨HR1.out, ⟨0, KMap.empty, HM2.out.kept HG0.out (by simp), by omega, CntOf.nil⟩, Kd.R_grown HRW.out HG0.out (by simp), HBL.out.grown HG0.out HBL.out.size (fun j e => by cases e), ⟨HNE.out.1, HNR.out.1, HNE.out.2.1, HNR.out.2⟩⟩)
        have HV0 := Aside0.mk (show Vis L [] (Maps.has D) from ⟨by simp, by simp, fun m hm => by
          have hM := (HLO.out m hm).mk'
          rw [HHA.out, HCN.out.at_ m hM, if_neg (by have := List.count_pos_iff.2 hm; omega)]
          simp⟩)
        rw [hr0]
        clear hr0 HR0 HR1 HOW1 HM2 HG0 HBL HRW HNE HNR HSZ HHA
        go_loopw [10] (fun v10 wq => ∃ (V : List (List Nat)) (left : Lit → Bool) (cnt : Nat), v10 = .int .i64 (((V.map fun m => L.count m).sum : Nat) : Int) ∧ Aside0 (Vis L V left) ∧ Aside0 (FrR w B r0 nn D left cnt B2 (acc L (fun m => gos (l.map bl) m k) V) A9 c9 xs wq)) (fun _ wq => wq.rangeLeft B r0)
        case atStart => exact ⟨[], _, _, rfl, HV0, H0⟩
        case round =>
          clear H0 HV0
          obtain ⟨V, left, cnt, rfl, HVI, HFR⟩ := hrel
          obtain ⟨S0, hS0⟩ : ∃ S0, (V.map fun m => L.count m).sum = S0 := ⟨_, rfl⟩
          have HS0 := Aside0.mk hS0
          rw [hS0]
          clear hS0
          go_wp2_with (at_next; refine wpList_next_ranges _ rfl (.tmp 42) rfl 101 keyed101 anyElem (fun x : Value => x) (fun x : Value => x) (fun key _ _ => ⟨key, rfl⟩) (fun v _ _ => ⟨v, rfl⟩) B r0 nn D left cnt rfl HFR.out.rg ?_ ?_)
          · intro hc0 hl0
            have hall : ∀ m ∈ L, m ∈ V := fun m hm => Classical.byContradiction fun hn => by
              have := (HVI.out.lf m hm).2 hn
              rw [hl0] at this
              cases this
            have HLV := Aside0.mk (show ∀ a, (acc L (fun m => gos (l.map bl) m k) V).count a = (lev (l.map bl) k (i + 1)).count a from fun a => by
              rw [acc_count HVI.out.nd hall, ← HLE.out]
              rfl)
            have HSL := Aside0.mk (show S0 = L.length by
              have h := sum_cover HVI.out.nd (fun _ => 1) L hall
              rw [ones] at h
              rw [← HS0.out, ← h]
              simp)
            have hxl : xs.length = i := by rw [HX.out]; simp
            have KEY := Aside0.mk (app_int (x := (S0 : Int)) HFR.out.row HFR.out.bel HFR.out.bel.size (fun _ _ => trivial) (by rw [hxl]; have := HLT.out; have := HN.out; omega) 73 75)
            have HXL := Aside0.mk hxl
            clear hc0 hl0 hall hxl
            go_wp2_with (at_builtin; refine KEY.out _ _ _ _ _ rfl rfl rfl rfl ?_; intro A3 c3 w3 hr3 hb3 hg3 hat3; have HR3 := Aside0.mk hr3; have HB3 := Aside0.mk hb3; have HG3 := Aside0.mk hg3; clear hr3 hb3 hg3 hat3)
            go_roundw
            case rel => exact ⟨i + 1, B2, A3, c3, xs ++ [(S0 : Int)], by go_num, rfl, by simp, by have := HLT.out; omega, ⟨by
              rw [List.range_succ, List.map_append, ← HX.out]
              simp only [List.map_cons, List.map_nil]
              rw [HLE.out, HSL.out]⟩, ⟨by
              obtain ⟨n2, f2, m2, _, h2⟩ := HFR.out.mp
              refine ⟨⟨n2, f2, m2.kept HG3.out (fun e => ?_), h2.perm HLV.out⟩, by rw [List.length_append]; exact HR3.out, HB3.out, HFR.out.ne.2.2.1⟩
              obtain ⟨cells, hc⟩ := Kd.R_typed HFR.out.row _ e.symm
              exact m2.notCells _ _ _ hc⟩⟩
            case measure => simp [intOf]; have := HLT.out; omega
          · intro x cv kl y1 y2 w1 cnt1 hkey hlk hv hat1 hrg1 hlt1 hg1 hs1 hen
            obtain ⟨m, hm, hM, rfl, rfl, rfl⟩ := visit (y := (y1, y2)) HCN.out HAT.out hkey hv hat1
            have HMM := Aside0.mk hm
            have HMO := Aside0.mk (HLO.out m hm)
            obtain ⟨hvs, hnv⟩ := HVI.out.step (fun m hm => (HLO.out m hm).mk') hm hlk
            have HVS := Aside0.mk hvs
            have HLT1 := Aside0.mk hlt1
            have HF1 := Aside0.mk (HFR.out.iter hg1 hrg1)
            obtain ⟨cm, hcm⟩ : ∃ cm, L.count m = cm := ⟨_, rfl⟩
            have HCM := Aside0.mk hcm
            have HCP := Aside0.mk (show 0 < cm by rw [← hcm]; exact List.count_pos_iff.2 hm)
            have HSB := Aside0.mk (show S0 + cm ≤ 1152921504606846976 by
              have h := sum_sub hvs.nd L
              rw [List.map_append, List.sum_append, HS0.out] at h
              have := HLN.out
              simp [hcm] at h
              omega)
            have hsb : (S0 : Int) + (cm : Int) ≤ 1152921504606846976 := by have := HSB.out; omega
            obtain ⟨m0, m1, m2, m3, e4⟩ := four HMO.out.len
            have HE4 := Aside0.mk e4
            have mc : mcells [m0, m1, m2, m3] = #[.int .i64 (m0 : Int), .int .i64 (m1 : Int), .int .i64 (m2 : Int), .int .i64 (m3 : Int)] := rfl
            rw [hcm, e4, mc] at hen
            rw [hcm, e4, mc]
            clear hkey hlk hv hat1 hrg1 hlt1 hg1 hs1 hm hM mc hvs hnv hcm e4
            go_wp2
            obtain ⟨gm, hgm⟩ : ∃ gm, w1.heap.size = gm := ⟨_, rfl⟩
            obtain ⟨W2, hW2⟩ : ∃ W2, w1.alloc (.cells #[.int .i64 (m0 : Int), .int .i64 (m1 : Int), .int .i64 (m2 : Int), .int .i64 (m3 : Int)] 101) = W2 := ⟨_, rfl⟩
            have HGM := Aside0.mk (show W2.heap[gm]? = some (.cells #[.int .i64 (m0 : Int), .int .i64 (m1 : Int), .int .i64 (m2 : Int), .int .i64 (m3 : Int)] 101 (0, 0)) by rw [← hW2, ← hgm]; exact blk_new _ _)
            have HF2 := Aside0.mk (show FrR w B r0 nn D (fun z => left z && !z.sameKey (quadK m)) cnt1 B2 (acc L (fun m => gos (l.map bl) m k) V ++ (gos (l.map bl) m 0).flatMap fun t => List.replicate cm t) A9 c9 xs W2 by
              have h := HF1.out.below (V' := W2) (by rw [← hW2]; exact below_alloc (Below.refl _ _) _)
              simpa [gos] using h)
            rw [hW2, hgm]
            clear hW2 hgm hen
            go_loopw [52] (fun v52 wz => ∃ cc : Nat, v52 = .int .i64 cc ∧ cc ≤ k ∧ Aside0 (wz.heap[gm]? = some (.cells #[.int .i64 (m0 : Int), .int .i64 (m1 : Int), .int .i64 (m2 : Int), .int .i64 (m3 : Int)] 101 (0, 0))) ∧ Aside0 (FrR w B r0 nn D (fun z => left z && !z.sameKey (quadK m)) cnt1 B2 (acc L (fun m => gos (l.map bl) m k) V ++ (gos (l.map bl) m cc).flatMap fun t => List.replicate cm t) A9 c9 xs wz)) (fun v52 _ => k - (intOf v52).toNat)
            case atStart => exact ⟨0, rfl, by omega, HGM, HF2⟩
            case round =>
              clear HGM HF2
              obtain ⟨cc, rfl, hcc, HGM, HF2⟩ := hrel
              by_cases hlt : cc < k
              · have hltI : (cc : Int) < (k : Int) := by omega
                have c1 : wr.cell? ⟨gm, 0, none⟩ = some (.int .i64 (m0 : Int)) := (blk_cell HGM.out 0).trans rfl
                have c2 : wr.cell? ⟨gm, 1, none⟩ = some (.int .i64 (m1 : Int)) := (blk_cell HGM.out 1).trans rfl
                have c3 : wr.cell? ⟨gm, 2, none⟩ = some (.int .i64 (m2 : Int)) := (blk_cell HGM.out 2).trans rfl
                have c4 : wr.cell? ⟨gm, 3, none⟩ = some (.int .i64 (m3 : Int)) := (blk_cell HGM.out 3).trans rfl
                have hcv : IntKind.u8.wrap (97 + (cc : Int)) = 97 + (cc : Int) := by
                  have h1 : (cc : Int) < 4 := by omega
                  have h0 : (0 : Int) ≤ (cc : Int) := by omega
                  show (97 + (cc : Int)) % 256 = 97 + (cc : Int)
                  omega
                have hcc4 : cc < 4 := by have := HK4.out; omega
                obtain ⟨ra, hra⟩ : ∃ ra, aft (l.map bl) m (97 + cc) = ra := ⟨_, rfl⟩
                have HRA := Aside0.mk hra
                have HLT2 := Aside0.mk hlt
                have AF := Aside0.mk (show Calls Try.prog 66 #[.agg #[.int .i64 (m0 : Int), .int .i64 (m1 : Int), .int .i64 (m2 : Int), .int .i64 (m3 : Int)], .slice A l.length c, .int .u8 (97 + (cc : Int))] wr (AfPost ra wr) from by
                  have h := after_m A c l wr (Kd.C_below HC.out HF2.out.bel) HL.out H8.out m HMO.out cc hcc4 ra hra
                  rw [HE4.out] at h
                  exact h)
                clear hlt hra hcc
                go_upto_region 19 with (go_at_call 66; (with_reducible refine AF.out.mono ?_); rintro e w5 ⟨b0, b1, b2, b3, rfl, hb4, hb⟩; have HB4 := Aside0.mk hb4; have HB5 := Aside0.mk hb; clear hb4 hb)
                have HGM5 := Aside0.mk (blk_alloc (blk_below HGM.out HB5.out) (.cells #[.int .i64 (b0 : Int), .int .i64 (b1 : Int), .int .i64 (b2 : Int), .int .i64 (b3 : Int)] 101))
                have HF5 := Aside0.mk (HF2.out.below (V' := w5.alloc (.cells #[.int .i64 (b0 : Int), .int .i64 (b1 : Int), .int .i64 (b2 : Int), .int .i64 (b3 : Int)] 101)) (below_alloc HB5.out _))
                have HGT := Aside0.mk (blk_new w5 (.cells #[.int .i64 (b0 : Int), .int .i64 (b1 : Int), .int .i64 (b2 : Int), .int .i64 (b3 : Int)] 101))
                obtain ⟨gt, hgt⟩ : ∃ gt, w5.heap.size = gt := ⟨_, rfl⟩
                obtain ⟨W6, hW6⟩ : ∃ W6, w5.alloc (.cells #[.int .i64 (b0 : Int), .int .i64 (b1 : Int), .int .i64 (b2 : Int), .int .i64 (b3 : Int)] 101) = W6 := ⟨_, rfl⟩
                rw [hW6] at HGM5 HF5 HGT ⊢
                rw [hgt] at HGT ⊢
                clear hW6 hgt HB5 AF c1 c2 c3 c4 hcv
                cases ra with
                | none =>
                  go_wp2
                  go_roundw
                  case rel => exact ⟨cc + 1, by go_num, by have := HLT2.out; omega, HGM5, ⟨by
                    rw [gos_succ, HRA.out]
                    simpa using HF5.out⟩⟩
                  case measure => simp [intOf]; have := HLT2.out; omega
                | some t =>
                  have ht : t = [b0, b1, b2, b3] := HB4.out t (by first | rfl | trivial)
                  have HTO := Aside0.mk (aft_ok HS8.out HMO.out HRA.out)
                  obtain ⟨T, hT⟩ : ∃ T, (acc L (fun m => gos (l.map bl) m k) V ++ (gos (l.map bl) m cc).flatMap fun t => List.replicate cm t) = T := ⟨_, rfl⟩
                  have HTL := Aside0.mk (show T.length ≤ 4611686018427387904 by
                    have h1 := acc_le L (fun m => gos (l.map bl) m k) 4 V (fun m _ => Nat.le_trans (gos_len _ _ _) HK4.out)
                    have h2 := gos_len (l.map bl) m cc
                    have h3 := Nat.mul_le_mul_left cm (Nat.le_trans h2 (Nat.le_of_lt hcc4))
                    rw [HS0.out] at h1
                    have h4 := HSB.out
                    rw [← hT, List.length_append, length_rep]
                    omega)
                  have HF6 := Aside0.mk (show FrR w B r0 nn D (fun z => left z && !z.sameKey (quadK m)) cnt1 B2 T A9 c9 xs W6.drew by rw [← hT]; exact HF5.out.below (below_drew (Below.refl _ _)))
                  have HTT := Aside0.mk (show ∀ V', FrR w B r0 nn D (fun z => left z && !z.sameKey (quadK m)) cnt1 B2 (T ++ List.replicate cm t) A9 c9 xs V' → FrR w B r0 nn D (fun z => left z && !z.sameKey (quadK m)) cnt1 B2 (acc L (fun m => gos (l.map bl) m k) V ++ (gos (l.map bl) m (cc + 1)).flatMap fun t => List.replicate cm t) A9 c9 xs V' from fun V' h => by
                    rw [gos_succ, HRA.out, List.flatMap_append, ← List.append_assoc, hT]
                    simpa using h)
                  obtain ⟨n2, f2, m2, hn2, hc2⟩ := HF6.out.mp
                  have hMk := HTO.out.mk'
                  obtain ⟨ct, hct⟩ : ∃ ct, T.count t = ct := ⟨_, rfl⟩
                  have hcl : ct ≤ T.length := by rw [← hct]; exact List.count_le_length
                  obtain ⟨st, W7, r7, m7, g7, hst⟩ := m2.entry (t := 99) (e := 3) law101 Try.underlying99 (by have := HTL.out; unfold maxLen; omega) zero3 (key101 t hMk.1 hMk.2)
                  obtain ⟨W8, r8, m8, g8⟩ := hst (.int .i64 ((ct : Int) + (cm : Int)))
                  have lk6 := m2.look (t := 99) (e := 3) keyed101 Try.underlying99 (zero3 _) (key101 t hMk.1 hMk.2)
                  have lk7 := m7.look (t := 99) (e := 3) keyed101 Try.underlying99 (zero3 _) (key101 t hMk.1 hMk.2)
                  rw [KMap.put_same f2 (keyed101.key (key101 t hMk.1 hMk.2))] at lk7
                  rw [hc2.getD hMk, hct] at lk6 r7 lk7
                  have HF8 := Aside0.mk (HF6.out.store g8 (T' := T ++ List.replicate cm t) ⟨n2 + 1, _, m8, by have := HCP.out; simp; omega, by rw [← hct]; exact hc2.push hMk HCP.out⟩)
                  have HGM8 := Aside0.mk (cells_past g8 (show W6.drew.heap[gm]? = _ from HGM5.out) m2.notCells)
                  have HGT7 := Aside0.mk (cells_past g7 (show W6.drew.heap[gt]? = _ from HGT.out) m2.notCells)
                  rw [ht] at r7 lk6 lk7
                  replace lk6 : (Instr.lookup 99 (.map (some B2)) (.agg #[.int .i64 (b0 : Int), .int .i64 (b1 : Int), .int .i64 (b2 : Int), .int .i64 (b3 : Int)]) false).run Try.prog W6.drew = .ok (.int .i64 (ct : Int)) W6.drew := lk6
                  replace lk7 : (Instr.lookup 99 (.map (some B2)) (.agg #[.int .i64 (b0 : Int), .int .i64 (b1 : Int), .int .i64 (b2 : Int), .int .i64 (b3 : Int)]) false).run Try.prog W7 = .ok (.int .i64 (ct : Int)) W7 := lk7
                  replace r7 : (Instr.mapEntry 99 (.map (some B2)) (.agg #[.int .i64 (b0 : Int), .int .i64 (b1 : Int), .int .i64 (b2 : Int), .int .i64 (b3 : Int)])).run Try.prog W6.drew = .ok (.tuple #[.int .i64 (ct : Int), st]) W7 := r7
                  have c9 : IntKind.i64.wrap ((ct : Int) + (cm : Int)) = (ct : Int) + (cm : Int) := IntWalk.i64_in _ (by have := HTL.out; have := HSB.out; omega)
                  have q0 : W6.drew.cell? ⟨gt, 0, none⟩ = some (.int .i64 (b0 : Int)) := (blk_cell (show W6.drew.heap[gt]? = _ from HGT.out) 0).trans rfl
                  have q1 : W6.drew.cell? ⟨gt, 1, none⟩ = some (.int .i64 (b1 : Int)) := (blk_cell (show W6.drew.heap[gt]? = _ from HGT.out) 1).trans rfl
                  have q2 : W6.drew.cell? ⟨gt, 2, none⟩ = some (.int .i64 (b2 : Int)) := (blk_cell (show W6.drew.heap[gt]? = _ from HGT.out) 2).trans rfl
                  have q3 : W6.drew.cell? ⟨gt, 3, none⟩ = some (.int .i64 (b3 : Int)) := (blk_cell (show W6.drew.heap[gt]? = _ from HGT.out) 3).trans rfl
                  have p0 : W7.cell? ⟨gt, 0, none⟩ = some (.int .i64 (b0 : Int)) := (blk_cell HGT7.out 0).trans rfl
                  have p1 : W7.cell? ⟨gt, 1, none⟩ = some (.int .i64 (b1 : Int)) := (blk_cell HGT7.out 1).trans rfl
                  have p2 : W7.cell? ⟨gt, 2, none⟩ = some (.int .i64 (b2 : Int)) := (blk_cell HGT7.out 2).trans rfl
                  have p3 : W7.cell? ⟨gt, 3, none⟩ = some (.int .i64 (b3 : Int)) := (blk_cell HGT7.out 3).trans rfl
                  clear hn2 hc2 m2 hMk hct hcl m7 g7 hst m8 g8 hT ht
                  go_upto_region 20 with (fail)
                  refine start_ (n := 8) (S := fun w' => (Instr.lookup 99 (.map (some B2)) (.agg #[.int .i64 (b0 : Int), .int .i64 (b1 : Int), .int .i64 (b2 : Int), .int .i64 (b3 : Int)]) false).run Try.prog w' = .ok (.int .i64 (ct : Int)) w' ∧ w'.cell? ⟨gt, 0, none⟩ = some (.int .i64 (b0 : Int)) ∧ w'.cell? ⟨gt, 1, none⟩ = some (.int .i64 (b1 : Int)) ∧ w'.cell? ⟨gt, 2, none⟩ = some (.int .i64 (b2 : Int)) ∧ w'.cell? ⟨gt, 3, none⟩ = some (.int .i64 (b3 : Int))) (ds := [7]) #[false, false, false, false, false, false, false, false] (by kernel_rfl) rfl rfl ⟨lk6, q0, q1, q2, q3⟩ (fun hHeld => ?_)
                  refine pure_ (i := 0) (N := (some 65)) (v := ?_) (a' := ?_) #[true, false, false, false, false, false, false, false] rfl rfl (by kernel_rfl) (fun _ _ _ h => h) (Or.inl ⟨by rfl, ?_⟩) ?_ ?_
                  rotate_left
                  · intro w'
                    go_simp
                    with_reducible rfl
                  rotate_left
                  · simp only [Act.put, List.setIfInBounds_toArray, List.set_cons_zero, List.set_cons_succ, i64_w, i32_w]
                    rfl
                  refine take_ (i := 1) (N := (some 66)) (v := ?_) (a' := ?_) #[true, true, false, false, false, false, false, false] rfl rfl (by kernel_rfl) (fun _ _ _ h => h) (Or.inl ⟨by rfl, ?_⟩) hHeld ?_ ?_
                  rotate_left
                  · rintro w' ⟨s0, s1, s2, s3, s4⟩
                    go_simp
                    with_reducible rfl
                  rotate_left
                  · simp only [Act.put, List.setIfInBounds_toArray, List.set_cons_zero, List.set_cons_succ, i64_w, i32_w]
                    rfl
                  refine take_ (i := 2) (N := (some 67)) (v := ?_) (a' := ?_) #[true, true, true, false, false, false, false, false] rfl rfl (by kernel_rfl) (fun _ _ _ h => h) (Or.inl ⟨by rfl, ?_⟩) hHeld ?_ ?_
                  rotate_left
                  · rintro w' ⟨s0, s1, s2, s3, s4⟩
                    go_simp
                    with_reducible rfl
                  rotate_left
                  · simp only [Act.put, List.setIfInBounds_toArray, List.set_cons_zero, List.set_cons_succ, i64_w, i32_w]
                    rfl
                  refine pure_ (i := 3) (N := (some 68)) (v := ?_) (a' := ?_) #[true, true, true, true, false, false, false, false] rfl rfl (by kernel_rfl) (fun _ _ _ h => h) (Or.inl ⟨by rfl, ?_⟩) ?_ ?_
                  rotate_left
                  · intro w'
                    go_simp
                    with_reducible rfl
                  rotate_left
                  · simp only [Act.put, List.setIfInBounds_toArray, List.set_cons_zero, List.set_cons_succ, i64_w, i32_w]
                    rfl
                  refine pure_ (i := 4) (N := (some 69)) (v := ?_) (a' := ?_) #[true, true, true, true, true, false, false, false] rfl rfl (by kernel_rfl) (fun _ _ _ h => h) (Or.inl ⟨by rfl, ?_⟩) ?_ ?_
                  rotate_left
                  · intro w'
                    go_simp
                    with_reducible rfl
                  rotate_left
                  · simp only [Act.put, List.setIfInBounds_toArray, List.set_cons_zero, List.set_cons_succ, i64_w, i32_w]
                    rfl
                  refine one_ (i := 5) (N := (some 70)) #[true, true, true, true, true, true, false, false] rfl rfl (by kernel_rfl) (by decide) (fun K hK => ?_)
                  refine value_ (w1 := ?_) (v := ?_) (by rfl) rfl ?_ ?_
                  rotate_left 2
                  · go_simp
                    constructor
                    · rfl
                    · rfl
                  refine hK.out _ _ ⟨lk7, p0, p1, p2, p3⟩ (fun hHeld => ?_)
                  clear hK K
                  refine norm_ (a' := ?_) ?_ ?_
                  rotate_left
                  · show Act.put _ (some 70) _ = _
                    simp only [Act.put, List.setIfInBounds_toArray, List.set_cons_zero, List.set_cons_succ, i64_w, i32_w]
                    rfl
                  refine pure_ (i := 6) (N := (some 71)) (v := ?_) (a' := ?_) #[true, true, true, true, true, true, true, false] rfl rfl (by kernel_rfl) (fun _ _ _ h => h) (Or.inl ⟨by rfl, ?_⟩) ?_ ?_
                  rotate_left
                  · intro w'
                    go_simp
                    with_reducible rfl
                  rotate_left
                  · simp only [Act.put, List.setIfInBounds_toArray, List.set_cons_zero, List.set_cons_succ, i64_w, i32_w]
                    rfl
                  refine last_ (i := 7) (N := none) #[true, true, true, true, true, true, true, true] rfl rfl (by kernel_rfl) (by decide) (fun K hK => ?_)
                  refine skip_ (w1 := ?_) (by rfl) rfl ?_ ?_
                  rotate_left
                  · go_simp
                    rfl
                  refine hK.out _ _ ?_
                  clear hK K
                  refine done_ (by kernel_rfl) ?_
                  go_wp2
                  go_roundw
                  case rel => exact ⟨cc + 1, by go_num, by have := HLT2.out; omega, HGM8, ⟨HTT.out _ HF8.out⟩⟩
                  case measure => simp [intOf]; have := HLT2.out; omega
              · have hltI : ¬ ((cc : Int) < (k : Int)) := by omega
                have hce : cc = k := by omega
                subst hce
                clear hlt
                go_wp2
                go_roundw
                case rel => exact ⟨V ++ [m], _, cnt1, by rw [List.map_append, List.sum_append, HS0.out]; simp [HCM.out], HVS, ⟨by
                  have h := HF2.out
                  rw [acc_snoc, HCM.out]
                  exact h⟩⟩
                case measure =>
                  rw [HF2.out.rg.left_eq, HFR.out.rg.left_eq]
                  exact HLT1.out
      · have hltI : ¬ ((i : Int) < (n : Int) + 1) := by omega
        have hin : i = n + 1 := by omega
        subst hin
        clear hlt
        go_wp2
        go_ret2
        have hxl : xs.length = (freeL (l.map bl) k n).length := by rw [HX.out]; simp [freeL]
        have hxm : xs = (freeL (l.map bl) k n).map fun (n : Nat) => (n : Int) := by rw [HX.out]; unfold freeL; rw [List.map_map]; rfl
        refine ⟨A9, c9, by rw [← hxl]; rfl, ?_, HA.out.bel⟩
        rw [← hxl, ← hxm]
        exact HA.out.row
end Go.Proofs.Ytagdbadljcongaa.X
end

section
/- Arches, and the first word that is no subsequence. -/
set_option linter.unusedVariables false
set_option linter.unusedSimpArgs false
namespace Go.Proofs.Ytagdbadljcongaa.X
open Go.RowKit Go.Proofs.YtagdbadljcongaaW.PrintWords
/-- The greatest of f 0, .., f k. -/
def maxF (f : Nat → Nat) : Nat → Nat
  | 0 => f 0
  | k + 1 => max (maxF f k) (f (k + 1))
theorem maxF_ge (f : Nat → Nat) : ∀ (k j : Nat), j ≤ k → f j ≤ maxF f k
  | 0, j, h => by obtain rfl : j = 0 := by omega
                  exact Nat.le_refl _
  | k + 1, j, h => by
    show f j ≤ max (maxF f k) (f (k + 1))
    by_cases e : j = k + 1
    · subst e; omega
    · have := maxF_ge f k j (by omega); omega
theorem maxF_le (f : Nat → Nat) (m : Nat) : ∀ k : Nat, (∀ j, j ≤ k → f j ≤ m) → maxF f k ≤ m
  | 0, h => h 0 (Nat.le_refl _)
  | k + 1, h => by
    show max (maxF f k) (f (k + 1)) ≤ m
    have h1 := maxF_le f m k (fun j hj => h j (by omega))
    have h2 := h (k + 1) (Nat.le_refl _)
    omega
theorem maxF_mem (f : Nat → Nat) : ∀ k : Nat, ∃ j, j ≤ k ∧ maxF f k = f j
  | 0 => ⟨0, Nat.le_refl _, rfl⟩
  | k + 1 => by
    show ∃ j, j ≤ k + 1 ∧ max (maxF f k) (f (k + 1)) = f j
    obtain ⟨j, h1, h2⟩ := maxF_mem f k
    by_cases h : maxF f k ≤ f (k + 1)
    · exact ⟨k + 1, Nat.le_refl _, by omega⟩
    · exact ⟨j, by omega, by omega⟩
/-- Where the arch that begins at place i ends: the length, if there is none. -/
def amx (l : List Nat) (k i : Nat) : Nat := maxF (fun c => nx l i (97 + c)) (k - 1)
theorem amx_le {l : List Nat} {k i : Nat} (h : i ≤ l.length) : i ≤ amx l k i ∧ amx l k i ≤ l.length :=
  ⟨Nat.le_trans (nx_le l i (97 + 0) h).1 (maxF_ge (fun c => nx l i (97 + c)) (k - 1) 0 (Nat.zero_le _)), maxF_le _ _ _ (fun j _ => (nx_le l i (97 + j) h).2)⟩
/-- The ends of the arches from place i on. -/
def archF (l : List Nat) (k : Nat) : Nat → Nat → List Nat
  | 0, _ => []
  | f + 1, i => if amx l k i < l.length then amx l k i :: archF l k f (amx l k i + 1) else []
def arch (l : List Nat) (k i : Nat) : List Nat := archF l k (l.length + 1 - i) i
theorem archF_enough (l : List Nat) (k : Nat) : ∀ (f i : Nat), i ≤ l.length → l.length + 1 - i ≤ f → archF l k f i = archF l k (l.length + 1 - i) i
  | 0, i, h, hf => by omega
  | f + 1, i, h, hf => by
    have h1 := amx_le (k := k) h
    obtain ⟨g, hg⟩ : ∃ g, l.length + 1 - i = g + 1 := ⟨l.length - i, by omega⟩
    rw [hg]
    unfold archF
    split
    · rw [archF_enough l k f _ (by omega) (by omega), archF_enough l k g _ (by omega) (by omega)]
    · rfl
theorem arch_eq {l : List Nat} {k i : Nat} (h : i ≤ l.length) : arch l k i = if amx l k i < l.length then amx l k i :: arch l k (amx l k i + 1) else [] := by
  have h1 := amx_le (k := k) h
  unfold arch
  obtain ⟨g, hg⟩ : ∃ g, l.length + 1 - i = g + 1 := ⟨l.length - i, by omega⟩
  rw [hg]
  show (if amx l k i < l.length then _ else _) = _
  split
  · rw [archF_enough l k g _ (by omega) (by omega)]
  · rfl
end Go.Proofs.Ytagdbadljcongaa.X
end

section
/- slices.Max at a row of whole numbers. -/
set_option linter.unusedVariables false
set_option linter.unusedSimpArgs false
namespace Go.Proofs.Ytagdbadljcongaa.X
open Go Go.RowKit Go.Proofs.YtagdbadljcongaaW.PrintWords Go.Proofs.YtagdbadljcongaaW.PrintLast Go.Proofs.YtagdbadljcongaaW.PrintMore
set_option maxHeartbeats 2000000 in
set_option maxRecDepth 100000 in
theorem max_any (w : World) (b off k c : Nat) (f : Nat → Nat) (hk : 1 ≤ k) (hk4 : k ≤ 4) (hf : ∀ j, j < k → w.cell? ⟨b, off + j, none⟩ = some (.int .i64 (f j))) (hb : ∀ j, j < k → f j ≤ 1000000) :
    Calls Try.prog 51 #[.slice (some ⟨b, off, none⟩) k c] w fun e w' => e = .returned (.int .i64 (maxF f (k - 1) : Nat)) ∧ w = w' := by
  have HF := Aside0.mk hf
  have HB := Aside0.mk hb
  have h0 : w.cell? ⟨b, off, none⟩ = some (.int .i64 (f 0)) := hf 0 (by omega)
  have hI : ((k : Int) < 1) = False := eq_false (by omega)
  have hI2 : (0 : Int) < (k : Int) := by omega
  have hk5 : (k : Int) ≤ 4 := by omega
  clear hf hb
  go_enter Try.func51, Try.ntmps51
  go_wp2
  go_loop [3, 4] (fun v3 v4 => ∃ j : Nat, v4 = .int .i64 ((j : Int) + 1) ∧ v3 = .int .i64 (maxF f j : Nat) ∧ j < k) (fun _ v4 => k - (intOf v4).toNat)
  case atStart => exact ⟨0, rfl, rfl, by omega⟩
  case round =>
    obtain ⟨j, rfl, rfl, hj⟩ := hrel
    by_cases hlt : j + 1 < k
    · have h1 := HF.out (j + 1) hlt
      have h2 : ((j : Int) + 1) < (k : Int) := by omega
      have h3 : (0 : Int) ≤ (j : Int) + 1 := by omega
      have h4 : ((j : Int) + 1).toNat = j + 1 := by omega
      have HLT := Aside0.mk hlt
      clear hlt
      go_wp2
      go_round
      case rel => exact ⟨j + 1, by go_num, by show _ = Value.int .i64 ((max (maxF f j) (f (j + 1)) : Nat) : Int); congr 1; omega, HLT.out⟩
      case measure => simp [intOf]; have := HLT.out; omega
    · have h2 : ¬ (((j : Int) + 1) < (k : Int)) := by omega
      have e : j = k - 1 := by omega
      clear hlt hj
      go_wp2
      go_ret
      exact ⟨rfl, rfl⟩
end Go.Proofs.Ytagdbadljcongaa.X
end

section
/- thread.Arches. -/
set_option linter.unusedVariables false
set_option linter.unusedSimpArgs false
namespace Go.Proofs.Ytagdbadljcongaa.X
open Go Go.RowKit Go.Proofs.YtagdbadljcongaaW.PrintWords Go.Proofs.YtagdbadljcongaaW.PrintLast Go.Proofs.YtagdbadljcongaaW.PrintMore
/-- What Arches returns. -/
def ArPost (xs : List Nat) (w : World) (e : Ending) (w' : World) : Prop :=
  ∃ v, e = .returned (.tuple #[v, .int .i64 0]) ∧ Kd.R (Kd.int .i64) 3 w' w.heap.size (fun _ => True) v (xs.map fun (n : Nat) => (n : Int)) ∧ Below w.heap.size w w'
theorem max_word (w : World) (b k c i m : Nat) (s : ByteArray) (hw : WordAt w b s) (hs : s.size ≤ 60) (hi : i ≤ s.size) (hk : 1 ≤ k) (hk4 : k ≤ 4) (hm : amx (bl s) k i = m) :
    Calls Try.prog 51 #[.slice (some ⟨b, 1 + i * 4, none⟩) k c] w fun e w' => e = .returned (.int .i64 m) ∧ w = w' := by
  subst hm
  exact max_any w b (1 + i * 4) k c (fun c => nx (bl s) i (97 + c)) hk hk4 (fun j hj => hw.cell hs hi (by omega)) (fun j _ => by have := (nx_le (bl s) i (97 + j) (by rw [bl_length]; exact hi)).2; rw [bl_length] at this; omega)
set_option maxHeartbeats 4000000 in
set_option maxRecDepth 100000 in
theorem arches_ok (s : ByteArray) (k : Nat) (w : World) (hs : isW (bl s) = true) (hk : 1 ≤ k) (hk4 : k ≤ 4) (ho : ovr (bl s) k = true) (R : List Nat) (hR : arch (bl s) k 0 = R) : Calls Try.prog 18 #[.string s, .int .i64 k] w (ArPost R w) := by
  have HS := Aside0.mk hs
  have HS60 := Aside0.mk (show s.size ≤ 60 by rw [← bl_length]; exact ((isW_iff _).1 hs).1)
  have HK := Aside0.mk hk
  have HK4 := Aside0.mk hk4
  have HO := Aside0.mk ho
  have HR := Aside0.mk hR
  have kI1 : (1 : Int) ≤ (k : Int) := by omega
  have kI4 : (k : Int) ≤ 4 := by omega
  clear hs hk hk4 ho hR
  go_enter Try.func18, Try.ntmps18
  go_wp2_with (first | (go_at_call 48; (with_reducible refine (newWord_yes s _ HS.out).mono ?_); rintro e w1 ⟨rfl, hwd, hb⟩; have HWS := Aside0.mk hwd; have HB := Aside0.mk hb; clear hwd hb) | (go_at_call 49; (with_reducible refine (within_y _ _ _ _ (by omega) (by omega)).mono ?_); rintro e w2 ⟨rfl, HDR⟩; have HB2 := Aside0.mk HDR.below; clear HDR) | (go_at_call 50; (with_reducible refine (over_any s k _ HS.out HK.out HK4.out true HO.out).mono ?_); rintro e w3 ⟨rfl, hb⟩; have HB3 := Aside0.mk hb; clear hb))
  have HWD := Aside0.mk ((HWS.out.below HB2.out).below HB3.out)
  have HB0 := Aside0.mk (below_step (below_step HB.out HB2.out) HB3.out)
  obtain ⟨b, hb⟩ : ∃ b, w.heap.size = b := ⟨_, rfl⟩
  simp only [hb] at HWD ⊢
  replace hb := Aside0.mk hb
  clear HB HB2 HB3 HWS
  go_loopw [8, 9] (fun v8 v9 wr => ∃ (i : Nat) (A : Option Addr) (c : Nat) (xs : List Int), v9 = .int .i64 i ∧ v8 = .slice A xs.length c ∧ i ≤ s.size ∧ Aside0 (xs.length ≤ i) ∧
      Aside0 (Kd.R (Kd.int .i64) 3 wr w3.heap.size (fun _ => True) (.slice A xs.length c) xs) ∧ Aside0 (Below w3.heap.size w3 wr) ∧ Aside0 (∃ pre : List Nat, xs = pre.map (fun (n : Nat) => (n : Int)) ∧ pre ++ arch (bl s) k i = R)) (fun _ v9 _ => s.size + 1 - (intOf v9).toNat)
  case atStart => exact ⟨0, none, 0, [], rfl, rfl, by omega, ⟨by simp⟩, ⟨Kd.R_nil _ _ _ _ _⟩, ⟨Below.refl _ _⟩, ⟨[], rfl, HR.out⟩⟩
  case round =>
    obtain ⟨i, A, c, xs, rfl, rfl, hi, HP, HRW, HB, HE⟩ := hrel
    clear HR
    obtain ⟨m, hm⟩ : ∃ m, amx (bl s) k i = m := ⟨_, rfl⟩
    have hm1 := amx_le (k := k) (show i ≤ (bl s).length by rw [bl_length]; exact hi)
    rw [hm, bl_length] at hm1
    have HM := Aside0.mk hm
    have HM1 := Aside0.mk hm1
    have HI := Aside0.mk hi
    have HWR := Aside0.mk (HWD.out.below HB.out)
    have iI : (i : Int) < 61 := by have := HS60.out; omega
    have iI0 : (0 : Int) ≤ (i : Int) := by omega
    have mI : (m : Int) ≤ 60 := by have := HS60.out; omega
    have HEQ := Aside0.mk (arch_eq (k := k) (show i ≤ (bl s).length by rw [bl_length]; exact hi))
    clear hm hm1 hi
    by_cases hlt : m < s.size
    · have HLT := Aside0.mk hlt
      have hne : ((m : Int) == (s.size : Int)) = false := beq_eq_false_iff_ne.mpr (by omega)
      have hne2 : (m == s.size) = false := beq_eq_false_iff_ne.mpr (by omega)
      have KEY := Aside0.mk (app_int (x := (m : Int)) HRW.out HB.out HB.out.size (fun _ _ => trivial) (by have := HP.out; have := HI.out; have := HS60.out; omega) 42 44)
      clear hlt
      go_wp2_with (first | (go_at_call 51; (with_reducible refine (max_word _ b k _ i m s HWR.out HS60.out HI.out HK.out HK4.out HM.out).mono ?_); rintro e w' ⟨rfl, rfl⟩) | (at_builtin; refine KEY.out _ _ _ _ _ rfl rfl rfl rfl ?_; intro A2 c2 w4 hr3 hb3 hg3 hat3; have HR3 := Aside0.mk hr3; have HB3 := Aside0.mk hb3; clear hr3 hb3 hg3 hat3))
      go_roundw
      case rel => exact ⟨m + 1, A2, c2, xs ++ [(m : Int)], by go_num, by simp, by have := HLT.out; omega, ⟨by have := HP.out; have := HM1.out; simp; omega⟩, ⟨by rw [List.length_append]; exact HR3.out⟩, HB3, ⟨by
        obtain ⟨pre, h1, h2⟩ := HE.out
        have h3 := HEQ.out
        rw [HM.out, if_pos (by rw [bl_length]; exact HLT.out)] at h3
        refine ⟨pre ++ [m], by rw [h1]; simp, ?_⟩
        rw [← h2, h3]; simp⟩⟩
      case measure => simp [intOf]; have h1 := HLT.out; have h2 := HM1.out; omega
    · have hme : m = s.size := by have h1 := HM1.out; omega
      have HME := Aside0.mk hme
      have hne : ((m : Int) == (s.size : Int)) = true := beq_iff_eq.mpr (by omega)
      have hne2 : (m == s.size) = true := beq_iff_eq.mpr (by omega)
      clear hlt hme
      go_wp2_with (go_at_call 51; (with_reducible refine (max_word _ b k _ i m s HWR.out HS60.out HI.out HK.out HK4.out HM.out).mono ?_); rintro e w' ⟨rfl, rfl⟩)
      go_ret2
      obtain ⟨pre, h1, h2⟩ := HE.out
      have h3 := HEQ.out
      rw [HM.out, if_neg (by rw [bl_length]; have := HME.out; omega)] at h3
      rw [h3, List.append_nil] at h2
      subst h2
      refine ⟨_, rfl, ?_, HB0.out.trans (HB.out.mono HB0.out.size)⟩
      rw [← h1]
      exact Kd.R_lower HRW.out HB0.out.size
end Go.Proofs.Ytagdbadljcongaa.X
end

section
/- The first word that is no subsequence, as the program reckons it. -/
set_option linter.unusedVariables false
set_option linter.unusedSimpArgs false
namespace Go.Proofs.Ytagdbadljcongaa.X
open Go.RowKit Go.Proofs.YtagdbadljcongaaW.PrintWords
/-- How many letters are needed from place i on. -/
def lst (l : List Nat) (k i : Nat) : Nat := if i ≤ l.length then (arch l k i).length + 1 else 0
theorem lst_eq {l : List Nat} {k i : Nat} (h : i ≤ l.length) : lst l k i = 1 + lst l k (amx l k i + 1) := by
  have h1 := amx_le (k := k) h
  unfold lst
  rw [if_pos h, arch_eq h]
  by_cases h2 : amx l k i < l.length
  · rw [if_pos h2, if_pos (by omega), List.length_cons]; omega
  · rw [if_neg h2, if_neg (by omega)]; rfl
theorem arch_len {l : List Nat} {k : Nat} : ∀ (n i : Nat), l.length - i = n → (arch l k i).length + i ≤ l.length ∨ l.length ≤ i := by
  intro n
  induction n using Nat.strongRecOn with
  | _ n ih =>
    intro i hn
    by_cases hi : i < l.length
    · left
      have h1 := amx_le (k := k) (show i ≤ l.length by omega)
      rw [arch_eq (by omega)]
      split
      · rw [List.length_cons]
        rcases ih (l.length - (amx l k i + 1)) (by omega) (amx l k i + 1) rfl with h | h
        · omega
        · have e : amx l k i + 1 = l.length := by omega
          rw [e, arch_eq (Nat.le_refl _), if_neg (by have := amx_le (l := l) (k := k) (Nat.le_refl _); omega)]
          simp; omega
      · simp; omega
    · exact .inr (by omega)
theorem lst_le (l : List Nat) (k i : Nat) : lst l k i ≤ l.length + 1 := by
  unfold lst
  split
  · rcases arch_len (l := l) (k := k) _ i rfl with h | h
    · omega
    · have e : i = l.length := by omega
      subst e
      rw [arch_eq (Nat.le_refl _), if_neg (by have := amx_le (l := l) (k := k) (Nat.le_refl _); omega)]
      simp
  · omega
/-- Whether a letter leads to the least. -/
def good (l : List Nat) (k i c : Nat) : Bool := decide (1 + lst l k (nx l i (97 + c) + 1) = lst l k i)
theorem good_ex {l : List Nat} {k i : Nat} (h : i ≤ l.length) (hk : 1 ≤ k) : ∃ c, c < k ∧ good l k i c = true := by
  obtain ⟨c, h1, h2⟩ := maxF_mem (fun c => nx l i (97 + c)) (k - 1)
  refine ⟨c, by omega, ?_⟩
  unfold good
  rw [← show amx l k i = nx l i (97 + c) from h2, lst_eq h]
  simp
/-- The first such letter. -/
def gpick (l : List Nat) (k i : Nat) : Nat := ((List.range k).find? (good l k i)).getD 0
theorem gpick_is {l : List Nat} {k i c : Nat} (hc : c < k) (h : good l k i c = true) (hb : ∀ d, d < c → good l k i d = false) : gpick l k i = c := by
  unfold gpick
  have : (List.range k).find? (good l k i) = some c := by
    rw [List.find?_range_eq_some]
    exact ⟨h, by simpa using hc, fun d hd => by simpa using hb d hd⟩
  rw [this]; rfl
def absF (l : List Nat) (k : Nat) : Nat → Nat → List Nat
  | 0, _ => []
  | f + 1, i => if i ≤ l.length then (97 + gpick l k i) :: absF l k f (nx l i (97 + gpick l k i) + 1) else []
def abs_ (l : List Nat) (k i : Nat) : List Nat := absF l k (l.length + 1 - i) i
theorem absF_enough (l : List Nat) (k : Nat) : ∀ (f i : Nat), l.length + 1 - i ≤ f → absF l k f i = absF l k (l.length + 1 - i) i
  | 0, i, hf => by rw [show l.length + 1 - i = 0 by omega]
  | f + 1, i, hf => by
    by_cases h : i ≤ l.length
    · obtain ⟨g, hg⟩ : ∃ g, l.length + 1 - i = g + 1 := ⟨l.length - i, by omega⟩
      rw [hg]
      show (if i ≤ l.length then _ else _) = (if i ≤ l.length then _ else _)
      rw [if_pos h, if_pos h]
      have h1 := (nx_le l i (97 + gpick l k i) h).1
      rw [absF_enough l k f _ (by omega), absF_enough l k g _ (by omega)]
    · rw [show l.length + 1 - i = 0 by omega]
      show (if i ≤ l.length then _ else _) = _
      rw [if_neg h]; rfl
theorem abs_end {l : List Nat} {k i : Nat} (h : ¬ i ≤ l.length) : abs_ l k i = [] := by
  unfold abs_; rw [show l.length + 1 - i = 0 by omega]; rfl
theorem abs_step {l : List Nat} {k i c : Nat} (hi : i ≤ l.length) (hc : c < k) (h : good l k i c = true) (hb : ∀ d, d < c → good l k i d = false) : abs_ l k i = (97 + c) :: abs_ l k (nx l i (97 + c) + 1) := by
  have hp := gpick_is hc h hb
  unfold abs_
  obtain ⟨g, hg⟩ : ∃ g, l.length + 1 - i = g + 1 := ⟨l.length - i, by omega⟩
  rw [hg]
  show (if i ≤ l.length then _ else _) = _
  rw [if_pos hi, hp]
  have h1 := (nx_le l i (97 + c) hi).1
  rw [absF_enough l k g _ (by omega)]
end Go.Proofs.Ytagdbadljcongaa.X
end
