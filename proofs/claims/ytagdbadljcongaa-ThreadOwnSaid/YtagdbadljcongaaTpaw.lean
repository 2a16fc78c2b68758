/- Texts behind ThreadOwn, part 23: contracts of the program's functions and the plain words for them. -/
import Derived.Maps.RangeWalk
import Derived.Test.YtagdbadljcongaaTpat
import Derived.Test.YtagdbadljcongaaTpav
section
/- thread.Free. -/
set_option linter.unusedVariables false
set_option linter.unusedSimpArgs false
namespace Go.Proofs.Ytagdbadljcongaa.X
open Go Go.RowKit Go.Proofs Go.Proofs.YtagdbadljcongaaW.PrintWords Go.Proofs.YtagdbadljcongaaW.PrintLast Go.Proofs.YtagdbadljcongaaW.PrintMore
attribute [local go_sem] Oper.semAt_some
theorem build101 (W : World) : (Instr.build 101 #[]).run Try.prog W = .ok (.agg #[.int .i64 0, .int .i64 0, .int .i64 0, .int .i64 0]) W := by kernel_rfl
theorem zero3 (W : World) : (zeroValue 3).run Try.prog W = .ok (.int .i64 0) W := by kernel_rfl
theorem mk0 : Mk [0, 0, 0, 0] := ⟨rfl, by simp⟩
/-- What Free returns. -/
def FrPost (R : List Nat) (w : World) (e : Ending) (w' : World) : Prop :=
  ∃ A c, e = .returned (.tuple #[.slice A R.length c, .int .i64 0]) ∧ Kd.R (Kd.int .i64) 3 w' w.heap.size (fun _ => True) (.slice A R.length c) (R.map fun (n : Nat) => (n : Int)) ∧ Below w.heap.size w w'
theorem nil_mem {l : List ByteArray} : (⟨#[]⟩ : ByteArray) ∈ l ↔ [] ∈ l.map bl := by
  rw [List.mem_map]
  constructor
  · exact fun h => ⟨_, h, rfl⟩
  · rintro ⟨s, h1, h2⟩
    have : s = ⟨#[]⟩ := by
      have h3 : s.size = 0 := by rw [← bl_length, h2]; rfl
      have h4 : s.data.size = 0 := h3
      have h5 : s.data = #[] := Array.eq_empty_of_size_eq_zero h4
      cases s
      simpa using h5
    rw [← this]; exact h1
set_option maxHeartbeats 8000000 in
set_option maxRecDepth 1000000 in
theorem free_ok (A : Option Addr) (c : Nat) (l : List ByteArray) (w : World) (hC : Kd.C Kd.string w A l.length l) (hc : l.length ≤ c) (hl : l.length ≤ 4) (hf : famB l = true) (k n : Nat) (hk : 1 ≤ k) (hk4 : k ≤ 4) (hn : n ≤ 30) :
    Calls Try.prog 43 #[.slice A l.length c, .int .i64 (k : Int), .int .i64 (n : Int)] w (FrPost (freeL (l.map bl) k n) w) := by
  have HC := Aside0.mk hC
  have HCC := Aside0.mk hc
  have HL := Aside0.mk hl
  have HK := Aside0.mk hk
  have HK4 := Aside0.mk hk4
  have HN := Aside0.mk hn
  have HF := Aside0.mk (show (decide (l.length ≤ 4) && famB l) = true by simp [hl, hf])
  have H8 := Aside0.mk (show ∀ s ∈ l, s.size ≤ 8 from fun s hs => by
    have := List.all_eq_true.1 hf s hs
    unfold fam1 at this
    simp at this
    exact this.2)
  obtain ⟨v, hv⟩ : ∃ v : Bool, v = true ↔ (⟨#[]⟩ : ByteArray) ∈ l := by classical exact ⟨decide ((⟨#[]⟩ : ByteArray) ∈ l), decide_eq_true_iff⟩
  have HV := Aside0.mk hv
  have hk1 : (1 : Int) ≤ (k : Int) := by omega
  have hk2 : (k : Int) ≤ 4 := by omega
  have hn1 : (0 : Int) ≤ (n : Int) := by omega
  have hn2 : (n : Int) ≤ 30 := by omega
  have hmm := @run_makeMap Try.prog
  clear hC hc hl hf hk hk4 hn hv
  go_enter Try.func43, Try.ntmps43
  go_upto_region 4 with (first | (go_at_call 58; (with_reducible refine (fam_any _ _ l _ HC.out (by have := HL.out; omega) _ HF.out).mono ?_); rintro e w1 ⟨rfl, hb⟩; have HB1 := Aside0.mk hb; clear hb) | (go_at_call 49; (with_reducible refine (within_y (k : Int) _ _ _ (by omega) (by omega)).mono ?_); rintro e w2 ⟨rfl, HD⟩; have HB2 := Aside0.mk HD.below; clear HD) | (go_at_call 49; (with_reducible refine (within_y (n : Int) _ _ _ (by omega) (by omega)).mono ?_); rintro e w3 ⟨rfl, HD⟩; have HB3 := Aside0.mk (below_step (below_step HB1.out HB2.out) HD.below); clear HD))
  obtain ⟨W1, hW1⟩ : ∃ W1, w3.alloc (.map #[] 0) = W1 := ⟨_, rfl⟩
  obtain ⟨B0, hB0⟩ : ∃ B0, w3.heap.size = B0 := ⟨_, rfl⟩
  have HM1 := Aside0.mk (show MapIs Try.prog 101 W1 B0 0 KMap.empty by rw [← hW1, ← hB0]; exact MapIs.made w3 Try.prog 101)
  have HBW := Aside0.mk (show Below w.heap.size w W1 by rw [← hW1]; exact below_alloc HB3.out _)
  have HBB := Aside0.mk (show w.heap.size ≤ B0 by rw [← hB0]; exact HB3.out.size)
  rw [hW1, hB0]
  clear hW1 hB0 HB1 HB2 HB3
  cases v
  case true =>
    go_upto_region 6 with (go_at_call 65; (with_reducible refine (cont_any _ _ l _ _ (Kd.C_below HC.out HBW.out) HCC.out (by have := HL.out; omega) true HV.out).mono ?_); rintro e w4 ⟨rfl, HD⟩; have HB4 := Aside0.mk HD.below; clear HD)
    have HST := Aside0.mk (show FrAt w B0 (lev (l.map bl) k 0) none 0 [] w4 by
      refine ⟨⟨0, KMap.empty, HM1.out.below HB4.out, ?_⟩, Kd.R_nil _ _ _ _ _, below_step HBW.out HB4.out, HBB.out⟩
      unfold lev
      rw [if_pos (nil_mem.1 (HV.out.1 (by first | rfl | trivial)))]
      exact CntOf.nil)
    clear HM1 HBW HBB HV HB4
    go_wp2
    go_loopw [8, 9, 38] (fun v8 v9 v38 wr => ∃ (i B : Nat) (A : Option Addr) (c : Nat) (xs : List Int), v38 = .int .i64 i ∧ v8 = .map (some B) ∧ v9 = .slice A xs.length c ∧ i ≤ n + 1 ∧ Aside0 (xs = (List.range i).map fun j => ((lev (l.map bl) k j).length : Int)) ∧ Aside0 (FrAt w B (lev (l.map bl) k i) A c xs wr)) (fun _ _ v38 _ => n + 1 - (intOf v38).toNat)
    case atStart => exact ⟨0, B0, none, 0, [], rfl, rfl, rfl, by omega, ⟨rfl⟩, HST⟩
    case round =>
      clear HST
      obtain ⟨i, B, A9, c9, xs, rfl, rfl, rfl, hi, HX, HA⟩ := hrel
      by_cases hlt : i < n + 1
      · have hltI : (i : Int) < (n : Int) + 1 := by omega
        have HLT := Aside0.mk hlt
        have HS8 := Aside0.mk (show ∀ x ∈ l.map bl, x.length ≤ 8 from fun x hx => by
          obtain ⟨s, h1, rfl⟩ := List.mem_map.1 hx
          rw [bl_length]; exact H8.out s h1)
        obtain ⟨L, hL⟩ : ∃ L, lev (l.map bl) k i = L := ⟨_, rfl⟩
        have HLO := Aside0.mk (show ∀ m ∈ L, MOk (l.map bl) m by rw [← hL]; exact lev_ok HS8.out k i)
        have HLN := Aside0.mk (show L.length ≤ 1152921504606846976 by
          rw [← hL]
          have h1 := lev_le (l.map bl) k HK4.out i
          have h2 : 4 ^ i ≤ 4 ^ 30 := Nat.pow_le_pow_right (by omega) (by have := HN.out; omega)
          exact Nat.le_trans h1 (Nat.le_trans h2 (by decide)))
        have HLE := Aside0.mk hL
        have HA1 := Aside0.mk (show FrAt w B L A9 c9 xs wr by rw [← hL]; exact HA.out)
        obtain ⟨nn, f, m1, hcnt⟩ := HA1.out.mp
        obtain ⟨D, hown, hhas, hat⟩ := m1.ex
        have HCN := Aside0.mk hcnt
        have HAT := Aside0.mk hat
        have HHA := Aside0.mk hhas
        have HOW := Aside0.mk hown
        clear hlt hL m1 hcnt hat hhas hown HA hi
        go_upto_region 11 with (fail)
        have HOW1 := Aside0.mk (HOW.out.alloc (.map #[] 0))
        have HM2 := Aside0.mk (MapIs.made wr Try.prog 101)
        have HB2 := Aside0.mk (show Below wr.heap.size wr (wr.alloc (.map #[] 0)) from below_alloc (Below.refl _ _) _)
        have HSZ := Aside0.mk (World.size_alloc wr (.map #[] 0))
        obtain ⟨B2, hB2⟩ : ∃ B2, wr.heap.size = B2 := ⟨_, rfl⟩
        obtain ⟨W1, hW1⟩ : ∃ W1, wr.alloc (.map #[] 0) = W1 := ⟨_, rfl⟩
        have HNE := Aside0.mk (show B2 ≠ B ∧ w.heap.size ≤ B2 ∧ B < W1.heap.size from ⟨by have := HOW.out.lt; omega, by rw [← hB2]; exact HA1.out.bel.size, by rw [← hW1]; have := HOW.out.lt; rw [HSZ.out]; omega⟩)
        rw [hW1] at HOW1 HM2 HB2 HSZ ⊢
        rw [hB2] at HM2 HSZ ⊢
        have HBL := Aside0.mk (show Below w.heap.size w W1 from below_step HA1.out.bel (by have := HB2.out; exact this))
        have HRW := Aside0.mk (Kd.R_below HA1.out.row (by have := HB2.out; exact this))
        clear hW1 hB2 HOW HB2
        go_wp2_with (at_range; refine wpList_range_own _ rfl (.tmp 41) 99 rfl 101 3 keyed101 Try.underlying99 anyElem B nn D rfl HOW1.out ?_; intro w0 hrg0 hg0 hs0; have HR0 := Aside0.mk hrg0; have HG0 := Aside0.mk hg0; clear hrg0 hg0 hs0)
        go_frame
        obtain ⟨r0, hr0⟩ : ∃ r0, W1.heap.size = r0 := ⟨_, rfl⟩
        have HR1 := Aside0.mk (show w0.ranges Try.prog 101 anyElem B r0 nn D (Maps.has D) (Maps.size D) by rw [← hr0]; exact HR0.out)
        have HNR := Aside0.mk (show B2 ≠ r0 ∧ w.heap.size ≤ r0 from ⟨by rw [← hr0, HSZ.out]; omega, by rw [← hr0]; exact HBL.out.size⟩)
        have H0 := Aside0.mk (show FrR w B r0 nn D (Maps.has D) (Maps.size D) B2 (acc L (fun m => gos (l.map bl) m k) []) A9 c9 xs w0 from
          ⟨HR1.out, ⟨0, KMap.empty, HM2.out.kept HG0.out (by simp), by omega, CntOf.nil⟩, Kd.R_grown HRW.out HG0.out (by simp), HBL.out.grown HG0.out HBL.out.size (fun j e => by cases e), ⟨HNE.out.1, HNR.out.1, HNE.out.2.1, HNR.out.2⟩⟩)
        have HV0 := Aside0.mk (show Vis L [] (Maps.has D) from ⟨by simp, by simp, fun m hm => by
          have hM := (HLO.out m hm).mk'
          rw [HHA.out, HCN.out.at_ m hM, if_neg (by have := List.count_pos_iff.2 hm; omega)]
          simp⟩)
        rw [hr0]
        clear hr0 HR0 HR1 HOW1 HM2 HG0 HBL HRW HNE HNR HSZ HHA
        go_loopw [10] (fun v10 wq => ∃ (V : List (List Nat)) (left : Lit → Bool) (cnt : Nat), v10 = .int .i64 (((V.map fun m => L.count m).sum : Nat) : Int) ∧ Aside0 (Vis L V left) ∧ Aside0 (FrR w B r0 nn D left cnt B2 (acc L (fun m => gos (l.map bl) m k) V) A9 c9 xs wq)) (fun _ wq => wq.rangeLeft B r0)
        case atStart => exact ⟨[], _, _, rfl, HV0, H0⟩
        case round =>
          clear H0 HV0
          obtain ⟨V, left, cnt, rfl, HVI, HFR⟩ := hrel
          obtain ⟨S0, hS0⟩ : ∃ S0, (V.map fun m => L.count m).sum = S0 := ⟨_, rfl⟩
          have HS0 := Aside0.mk hS0
          rw [hS0]
          clear hS0
          go_wp2_with (at_next; refine wpList_next_ranges _ rfl (.tmp 42) rfl 101 keyed101 anyElem (fun x : Value => x) (fun x : Value => x) (fun key _ _ => ⟨key, rfl⟩) (fun v _ _ => ⟨v, rfl⟩) B r0 nn D left cnt rfl HFR.out.rg ?_ ?_)
          · intro hc0 hl0
            have hall : ∀ m ∈ L, m ∈ V := fun m hm => Classical.byContradiction fun hn => by
              have := (HVI.out.lf m hm).2 hn
              rw [hl0] at this
              cases this
            have HLV := Aside0.mk (show ∀ a, (acc L (fun m => gos (l.map bl) m k) V).count a = (lev (l.map bl) k (i + 1)).count a from fun a => by
              rw [acc_count HVI.out.nd hall, ← HLE.out]
              rfl)
            have HSL := Aside0.mk (show S0 = L.length by
              have h := sum_cover HVI.out.nd (fun _ => 1) L hall
              rw [ones] at h
              rw [← HS0.out, ← h]
              simp)
            have hxl : xs.length = i := by rw [HX.out]; simp
            have KEY := Aside0.mk (app_int (x := (S0 : Int)) HFR.out.row HFR.out.bel HFR.out.bel.size (fun _ _ => trivial) (by rw [hxl]; have := HLT.out; have := HN.out; omega) 73 75)
            have HXL := Aside0.mk hxl
            clear hc0 hl0 hall hxl
            go_wp2_with (at_builtin; refine KEY.out _ _ _ _ _ rfl rfl rfl rfl ?_; intro A3 c3 w3 hr3 hb3 hg3 hat3; have HR3 := Aside0.mk hr3; have HB3 := Aside0.mk hb3; have HG3 := Aside0.mk hg3; clear hr3 hb3 hg3 hat3)
            go_roundw
            case rel => exact ⟨i + 1, B2, A3, c3, xs ++ [(S0 : Int)], by go_num, rfl, by simp, by have := HLT.out; omega, ⟨by
              rw [List.range_succ, List.map_append, ← HX.out]
              simp only [List.map_cons, List.map_nil]
              rw [HLE.out, HSL.out]⟩, ⟨by
              obtain ⟨n2, f2, m2, _, h2⟩ := HFR.out.mp
              refine ⟨⟨n2, f2, m2.kept HG3.out (fun e => ?_), h2.perm HLV.out⟩, by rw [List.length_append]; exact HR3.out, HB3.out, HFR.out.ne.2.2.1⟩
              obtain ⟨cells, hc⟩ := Kd.R_typed HFR.out.row _ e.symm
              exact m2.notCells _ _ _ hc⟩⟩
            case measure => simp [intOf]; have := HLT.out; omega
          · intro x cv kl y1 y2 w1 cnt1 hkey hlk hv hat1 hrg1 hlt1 hg1 hs1 hen
            obtain ⟨m, hm, hM, rfl, rfl, rfl⟩ := visit (y := (y1, y2)) HCN.out HAT.out hkey hv hat1
            have HMM := Aside0.mk hm
            have HMO := Aside0.mk (HLO.out m hm)
            obtain ⟨hvs, hnv⟩ := HVI.out.step (fun m hm => (HLO.out m hm).mk') hm hlk
            have HVS := Aside0.mk hvs
            have HLT1 := Aside0.mk hlt1
            have HF1 := Aside0.mk (HFR.out.iter hg1 hrg1)
            obtain ⟨cm, hcm⟩ : ∃ cm, L.count m = cm := ⟨_, rfl⟩
            have HCM := Aside0.mk hcm
            have HCP := Aside0.mk (show 0 < cm by rw [← hcm]; exact List.count_pos_iff.2 hm)
            have HSB := Aside0.mk (show S0 + cm ≤ 1152921504606846976 by
              have h := sum_sub hvs.nd L
              rw [List.map_append, List.sum_append, HS0.out] at h
              have := HLN.out
              simp [hcm] at h
              omega)
            have hsb : (S0 : Int) + (cm : Int) ≤ 1152921504606846976 := by have := HSB.out; omega
            obtain ⟨m0, m1, m2, m3, e4⟩ := four HMO.out.len
            have HE4 := Aside0.mk e4
            have mc : mcells [m0, m1, m2, m3] = #[.int .i64 (m0 : Int), .int .i64 (m1 : Int), .int .i64 (m2 : Int), .int .i64 (m3 : Int)] := rfl
            rw [hcm, e4, mc] at hen
            rw [hcm, e4, mc]
            clear hkey hlk hv hat1 hrg1 hlt1 hg1 hs1 hm hM mc hvs hnv hcm e4
            go_wp2
            obtain ⟨gm, hgm⟩ : ∃ gm, w1.heap.size = gm := ⟨_, rfl⟩
            obtain ⟨W2, hW2⟩ : ∃ W2, w1.alloc (.cells #[.int .i64 (m0 : Int), .int .i64 (m1 : Int), .int .i64 (m2 : Int), .int .i64 (m3 : Int)] 101) = W2 := ⟨_, rfl⟩
            have HGM := Aside0.mk (show W2.heap[gm]? = some (.cells #[.int .i64 (m0 : Int), .int .i64 (m1 : Int), .int .i64 (m2 : Int), .int .i64 (m3 : Int)] 101 (0, 0)) by rw [← hW2, ← hgm]; exact blk_new _ _)
            have HF2 := Aside0.mk (show FrR w B r0 nn D (fun z => left z && !z.sameKey (quadK m)) cnt1 B2 (acc L (fun m => gos (l.map bl) m k) V ++ (gos (l.map bl) m 0).flatMap fun t => List.replicate cm t) A9 c9 xs W2 by
              have h := HF1.out.below (V' := W2) (by rw [← hW2]; exact below_alloc (Below.refl _ _) _)
              simpa [gos] using h)
            rw [hW2, hgm]
            clear hW2 hgm hen
            go_loopw [52] (fun v52 wz => ∃ cc : Nat, v52 = .int .i64 cc ∧ cc ≤ k ∧ Aside0 (wz.heap[gm]? = some (.cells #[.int .i64 (m0 : Int), .int .i64 (m1 : Int), .int .i64 (m2 : Int), .int .i64 (m3 : Int)] 101 (0, 0))) ∧ Aside0 (FrR w B r0 nn D (fun z => left z && !z.sameKey (quadK m)) cnt1 B2 (acc L (fun m => gos (l.map bl) m k) V ++ (gos (l.map bl) m cc).flatMap fun t => List.replicate cm t) A9 c9 xs wz)) (fun v52 _ => k - (intOf v52).toNat)
            case atStart => exact ⟨0, rfl, by omega, HGM, HF2⟩
            case round =>
              clear HGM HF2
              obtain ⟨cc, rfl, hcc, HGM, HF2⟩ := hrel
              by_cases hlt : cc < k
              · have hltI : (cc : Int) < (k : Int) := by omega
                have c1 : wr.cell? ⟨gm, 0, none⟩ = some (.int .i64 (m0 : Int)) := (blk_cell HGM.out 0).trans rfl
                have c2 : wr.cell? ⟨gm, 1, none⟩ = some (.int .i64 (m1 : Int)) := (blk_cell HGM.out 1).trans rfl
                have c3 : wr.cell? ⟨gm, 2, none⟩ = some (.int .i64 (m2 : Int)) := (blk_cell HGM.out 2).trans rfl
                have c4 : wr.cell? ⟨gm, 3, none⟩ = some (.int .i64 (m3 : Int)) := (blk_cell HGM.out 3).trans rfl
                have hcv : IntKind.u8.wrap (97 + (cc : Int)) = 97 + (cc : Int) := by
                  have h1 : (cc : Int) < 4 := by omega
                  have h0 : (0 : Int) ≤ (cc : Int) := by omega
                  show (97 + (cc : Int)) % 256 = 97 + (cc : Int)
                  omega
                have hcc4 : cc < 4 := by have := HK4.out; omega
                obtain ⟨ra, hra⟩ : ∃ ra, aft (l.map bl) m (97 + cc) = ra := ⟨_, rfl⟩
                have HRA := Aside0.mk hra
                have HLT2 := Aside0.mk hlt
                have AF := Aside0.mk (show Calls Try.prog 66 #[.agg #[.int .i64 (m0 : Int), .int .i64 (m1 : Int), .int .i64 (m2 : Int), .int .i64 (m3 : Int)], .slice A l.length c, .int .u8 (97 + (cc : Int))] wr (AfPost ra wr) from by
                  have h := after_m A c l wr (Kd.C_below HC.out HF2.out.bel) HL.out H8.out m HMO.out cc hcc4 ra hra
                  rw [HE4.out] at h
                  exact h)
                clear hlt hra hcc
                go_upto_region 19 with (go_at_call 66; (with_reducible refine AF.out.mono ?_); rintro e w5 ⟨b0, b1, b2, b3, rfl, hb4, hb⟩; have HB4 := Aside0.mk hb4; have HB5 := Aside0.mk hb; clear hb4 hb)
                have HGM5 := Aside0.mk (blk_alloc (blk_below HGM.out HB5.out) (.cells #[.int .i64 (b0 : Int), .int .i64 (b1 : Int), .int .i64 (b2 : Int), .int .i64 (b3 : Int)] 101))
                have HF5 := Aside0.mk (HF2.out.below (V' := w5.alloc (.cells #[.int .i64 (b0 : Int), .int .i64 (b1 : Int), .int .i64 (b2 : Int), .int .i64 (b3 : Int)] 101)) (below_alloc HB5.out _))
                have HGT := Aside0.mk (blk_new w5 (.cells #[.int .i64 (b0 : Int), .int .i64 (b1 : Int), .int .i64 (b2 : Int), .int .i64 (b3 : Int)] 101))
                obtain ⟨gt, hgt⟩ : ∃ gt, w5.heap.size = gt := ⟨_, rfl⟩
                obtain ⟨W6, hW6⟩ : ∃ W6, w5.alloc (.cells #[.int .i64 (b0 : Int), .int .i64 (b1 : Int), .int .i64 (b2 : Int), .int .i64 (b3 : Int)] 101) = W6 := ⟨_, rfl⟩
                rw [hW6] at HGM5 HF5 HGT ⊢
                rw [hgt] at HGT ⊢
                clear hW6 hgt HB5 AF c1 c2 c3 c4 hcv
                cases ra with
                | none =>
                  go_wp2
                  go_roundw
                  case rel => exact ⟨cc + 1, by go_num, by have := HLT2.out; omega, HGM5, ⟨by
                    rw [gos_succ, HRA.out]
                    simpa using HF5.out⟩⟩
                  case measure => simp [intOf]; have := HLT2.out; omega
                | some t =>
                  have ht : t = [b0, b1, b2, b3] := HB4.out t (by first | rfl | trivial)
                  have HTO := Aside0.mk (aft_ok HS8.out HMO.out HRA.out)
                  obtain ⟨T, hT⟩ : ∃ T, (acc L (fun m => gos (l.map bl) m k) V ++ (gos (l.map bl) m cc).flatMap fun t => List.replicate cm t) = T := ⟨_, rfl⟩
                  have HTL := Aside0.mk (show T.length ≤ 4611686018427387904 by
                    have h1 := acc_le L (fun m => gos (l.map bl) m k) 4 V (fun m _ => Nat.le_trans (gos_len _ _ _) HK4.out)
                    have h2 := gos_len (l.map bl) m cc
                    have h3 := Nat.mul_le_mul_left cm (Nat.le_trans h2 (Nat.le_of_lt hcc4))
                    rw [HS0.out] at h1
                    have h4 := HSB.out
                    rw [← hT, List.length_append, length_rep]
                    omega)
                  have HF6 := Aside0.mk (show FrR w B r0 nn D (fun z => left z && !z.sameKey (quadK m)) cnt1 B2 T A9 c9 xs W6.drew by rw [← hT]; exact HF5.out.below (below_drew (Below.refl _ _)))
                  have HTT := Aside0.mk (show ∀ V', FrR w B r0 nn D (fun z => left z && !z.sameKey (quadK m)) cnt1 B2 (T ++ List.replicate cm t) A9 c9 xs V' → FrR w B r0 nn D (fun z => left z && !z.sameKey (quadK m)) cnt1 B2 (acc L (fun m => gos (l.map bl) m k) V ++ (gos (l.map bl) m (cc + 1)).flatMap fun t => List.replicate cm t) A9 c9 xs V' from fun V' h => by
                    rw [gos_succ, HRA.out, List.flatMap_append, ← List.append_assoc, hT]
                    simpa using h)
                  obtain ⟨n2, f2, m2, hn2, hc2⟩ := HF6.out.mp
                  have hMk := HTO.out.mk'
                  obtain ⟨ct, hct⟩ : ∃ ct, T.count t = ct := ⟨_, rfl⟩
                  have hcl : ct ≤ T.length := by rw [← hct]; exact List.count_le_length
                  obtain ⟨st, W7, r7, m7, g7, hst⟩ := m2.entry (t := 99) (e := 3) law101 Try.underlying99 (by have := HTL.out; unfold maxLen; omega) zero3 (key101 t hMk.1 hMk.2)
                  obtain ⟨W8, r8, m8, g8⟩ := hst (.int .i64 ((ct : Int) + (cm : Int)))
                  have lk6 := m2.look (t := 99) (e := 3) keyed101 Try.underlying99 (zero3 _) (key101 t hMk.1 hMk.2)
                  have lk7 := m7.look (t := 99) (e := 3) keyed101 Try.underlying99 (zero3 _) (key101 t hMk.1 hMk.2)
                  rw [KMap.put_same f2 (keyed101.key (key101 t hMk.1 hMk.2))] at lk7
                  rw [hc2.getD hMk, hct] at lk6 r7 lk7
                  have HF8 := Aside0.mk (HF6.out.store g8 (T' := T ++ List.replicate cm t) ⟨n2 + 1, _, m8, by have := HCP.out; simp; omega, by rw [← hct]; exact hc2.push hMk HCP.out⟩)
                  have HGM8 := Aside0.mk (cells_past g8 (show W6.drew.heap[gm]? = _ from HGM5.out) m2.notCells)
                  have HGT7 := Aside0.mk (cells_past g7 (show W6.drew.heap[gt]? = _ from HGT.out) m2.notCells)
                  rw [ht] at r7 lk6 lk7
                  replace lk6 : (Instr.lookup 99 (.map (some B2)) (.agg #[.int .i64 (b0 : Int), .int .i64 (b1 : Int), .int .i64 (b2 : Int), .int .i64 (b3 : Int)]) false).run Try.prog W6.drew = .ok (.int .i64 (ct : Int)) W6.drew := lk6
                  replace lk7 : (Instr.lookup 99 (.map (some B2)) (.agg #[.int .i64 (b0 : Int), .int .i64 (b1 : Int), .int .i64 (b2 : Int), .int .i64 (b3 : Int)]) false).run Try.prog W7 = .ok (.int .i64 (ct : Int)) W7 := lk7
                  replace r7 : (Instr.mapEntry 99 (.map (some B2)) (.agg #[.int .i64 (b0 : Int), .int .i64 (b1 : Int), .int .i64 (b2 : Int), .int .i64 (b3 : Int)])).run Try.prog W6.drew = .ok (.tuple #[.int .i64 (ct : Int), st]) W7 := r7
                  have c9 : IntKind.i64.wrap ((ct : Int) + (cm : Int)) = (ct : Int) + (cm : Int) := IntWalk.i64_in _ (by have := HTL.out; have := HSB.out; omega)
                  have q0 : W6.drew.cell? ⟨gt, 0, none⟩ = some (.int .i64 (b0 : Int)) := (blk_cell (show W6.drew.heap[gt]? = _ from HGT.out) 0).trans rfl
                  have q1 : W6.drew.cell? ⟨gt, 1, none⟩ = some (.int .i64 (b1 : Int)) := (blk_cell (show W6.drew.heap[gt]? = _ from HGT.out) 1).trans rfl
                  have q2 : W6.drew.cell? ⟨gt, 2, none⟩ = some (.int .i64 (b2 : Int)) := (blk_cell (show W6.drew.heap[gt]? = _ from HGT.out) 2).trans rfl
                  have q3 : W6.drew.cell? ⟨gt, 3, none⟩ = some (.int .i64 (b3 : Int)) := (blk_cell (show W6.drew.heap[gt]? = _ from HGT.out) 3).trans rfl
                  have p0 : W7.cell? ⟨gt, 0, none⟩ = some (.int .i64 (b0 : Int)) := (blk_cell HGT7.out 0).trans rfl
                  have p1 : W7.cell? ⟨gt, 1, none⟩ = some (.int .i64 (b1 : Int)) := (blk_cell HGT7.out 1).trans rfl
                  have p2 : W7.cell? ⟨gt, 2, none⟩ = some (.int .i64 (b2 : Int)) := (blk_cell HGT7.out 2).trans rfl
                  have p3 : W7.cell? ⟨gt, 3, none⟩ = some (.int .i64 (b3 : Int)) := (blk_cell HGT7.out 3).trans rfl
                  clear hn2 hc2 m2 hMk hct hcl m7 g7 hst m8 g8 hT ht
                  go_upto_region 20 with (fail)
                  refine start_ (n := 8) (S := fun w' => (Instr.lookup 99 (.map (some B2)) (.agg #[.int .i64 (b0 : Int), .int .i64 (b1 : Int), .int .i64 (b2 : Int), .int .i64 (b3 : Int)]) false).run Try.prog w' = .ok (.int .i64 (ct : Int)) w' ∧ w'.cell? ⟨gt, 0, none⟩ = some (.int .i64 (b0 : Int)) ∧ w'.cell? ⟨gt, 1, none⟩ = some (.int .i64 (b1 : Int)) ∧ w'.cell? ⟨gt, 2, none⟩ = some (.int .i64 (b2 : Int)) ∧ w'.cell? ⟨gt, 3, none⟩ = some (.int .i64 (b3 : Int))) (ds := [7]) #[false, false, false, false, false, false, false, false] (by kernel_rfl) rfl rfl ⟨lk6, q0, q1, q2, q3⟩ (fun hHeld => ?_)
                  refine pure_ (i := 0) (N := (some 65)) (v := ?_) (a' := ?_) #[true, false, false, false, false, false, false, false] rfl rfl (by kernel_rfl) (fun _ _ _ h => h) (Or.inl ⟨by rfl, ?_⟩) ?_ ?_
                  rotate_left
                  · intro w'
                    go_simp
                    with_reducible rfl
                  rotate_left
                  · simp only [Act.put, List.setIfInBounds_toArray, List.set_cons_zero, List.set_cons_succ, i64_w, i32_w]
                    rfl
                  refine take_ (i := 1) (N := (some 66)) (v := ?_) (a' := ?_) #[true, true, false, false, false, false, false, false] rfl rfl (by kernel_rfl) (fun _ _ _ h => h) (Or.inl ⟨by rfl, ?_⟩) hHeld ?_ ?_
                  rotate_left
                  · rintro w' ⟨s0, s1, s2, s3, s4⟩
                    go_simp
                    with_reducible rfl
                  rotate_left
                  · simp only [Act.put, List.setIfInBounds_toArray, List.set_cons_zero, List.set_cons_succ, i64_w, i32_w]
                    rfl
                  refine take_ (i := 2) (N := (some 67)) (v := ?_) (a' := ?_) #[true, true, true, false, false, false, false, false] rfl rfl (by kernel_rfl) (fun _ _ _ h => h) (Or.inl ⟨by rfl, ?_⟩) hHeld ?_ ?_
                  rotate_left
                  · rintro w' ⟨s0, s1, s2, s3, s4⟩
                    go_simp
                    with_reducible rfl
                  rotate_left
                  · simp only [Act.put, List.setIfInBounds_toArray, List.set_cons_zero, List.set_cons_succ, i64_w, i32_w]
                    rfl
                  refine pure_ (i := 3) (N := (some 68)) (v := ?_) (a' := ?_) #[true, true, true, true, false, false, false, false] rfl rfl (by kernel_rfl) (fun _ _ _ h => h) (Or.inl ⟨by rfl, ?_⟩) ?_ ?_
                  rotate_left
                  · intro w'
                    go_simp
                    with_reducible rfl
                  rotate_left
                  · simp only [Act.put, List.setIfInBounds_toArray, List.set_cons_zero, List.set_cons_succ, i64_w, i32_w]
                    rfl
                  refine pure_ (i := 4) (N := (some 69)) (v := ?_) (a' := ?_) #[true, true, true, true, true, false, false, false] rfl rfl (by kernel_rfl) (fun _ _ _ h => h) (Or.inl ⟨by rfl, ?_⟩) ?_ ?_
                  rotate_left
                  · intro w'
                    go_simp
                    with_reducible rfl
                  rotate_left
                  · simp only [Act.put, List.setIfInBounds_toArray, List.set_cons_zero, List.set_cons_succ, i64_w, i32_w]
                    rfl
                  refine one_ (i := 5) (N := (some 70)) #[true, true, true, true, true, true, false, false] rfl rfl (by kernel_rfl) (by decide) (fun K hK => ?_)
                  refine value_ (w1 := ?_) (v := ?_) (by rfl) rfl ?_ ?_
                  rotate_left 2
                  · go_simp
                    constructor
                    · rfl
                    · rfl
                  refine hK.out _ _ ⟨lk7, p0, p1, p2, p3⟩ (fun hHeld => ?_)
                  clear hK K
                  refine norm_ (a' := ?_) ?_ ?_
                  rotate_left
                  · show Act.put _ (some 70) _ = _
                    simp only [Act.put, List.setIfInBounds_toArray, List.set_cons_zero, List.set_cons_succ, i64_w, i32_w]
                    rfl
                  refine pure_ (i := 6) (N := (some 71)) (v := ?_) (a' := ?_) #[true, true, true, true, true, true, true, false] rfl rfl (by kernel_rfl) (fun _ _ _ h => h) (Or.inl ⟨by rfl, ?_⟩) ?_ ?_
                  rotate_left
                  · intro w'
                    go_simp
                    with_reducible rfl
                  rotate_left
                  · simp only [Act.put, List.setIfInBounds_toArray, List.set_cons_zero, List.set_cons_succ, i64_w, i32_w]
                    rfl
                  refine last_ (i := 7) (N := none) #[true, true, true, true, true, true, true, true] rfl rfl (by kernel_rfl) (by decide) (fun K hK => ?_)
                  refine skip_ (w1 := ?_) (by rfl) rfl ?_ ?_
                  rotate_left
                  · go_simp
                    rfl
                  refine hK.out _ _ ?_
                  clear hK K
                  refine done_ (by kernel_rfl) ?_
                  go_wp2
                  go_roundw
                  case rel => exact ⟨cc + 1, by go_num, by have := HLT2.out; omega, HGM8, ⟨HTT.out _ HF8.out⟩⟩
                  case measure => simp [intOf]; have := HLT2.out; omega
              · have hltI : ¬ ((cc : Int) < (k : Int)) := by omega
                have hce : cc = k := by omega
                subst hce
                clear hlt
                go_wp2
                go_roundw
                case rel => exact ⟨V ++ [m], _, cnt1, by rw [List.map_append, List.sum_append, HS0.out]; simp [HCM.out], HVS, ⟨by
                  have h := HF2.out
                  rw [acc_snoc, HCM.out]
                  exact h⟩⟩
                case measure =>
                  rw [HF2.out.rg.left_eq, HFR.out.rg.left_eq]
                  exact HLT1.out
      · have hltI : ¬ ((i : Int) < (n : Int) + 1) := by omega
        have hin : i = n + 1 := by omega
        subst hin
        clear hlt
        go_wp2
        go_ret2
        have hxl : xs.length = (freeL (l.map bl) k n).length := by rw [HX.out]; simp [freeL]
        have hxm : xs = (freeL (l.map bl) k n).map fun (n : Nat) => (n : Int) := by rw [HX.out]; unfold freeL; rw [List.map_map]; rfl
        refine ⟨A9, c9, by rw [← hxl]; rfl, ?_, HA.out.bel⟩
        rw [← hxl, ← hxm]
        exact HA.out.row
  case false =>
    go_upto_region 5 with (go_at_call 65; (with_reducible refine (cont_any _ _ l _ _ (Kd.C_below HC.out HBW.out) HCC.out (by have := HL.out; omega) false HV.out).mono ?_); rintro e w4 ⟨rfl, HD⟩; have HB4 := Aside0.mk HD.below; clear HD)
    obtain ⟨Wx, st, m2, g2⟩ := (HM1.out.below HB4.out).store (t := 99) (e := 3) keyed101 Try.underlying99 (by decide) (val := .int .i64 1) (key101 [0, 0, 0, 0] rfl (by simp))
    replace st : (Instr.mapUpdate 99 (.map (some B0)) (.agg #[.int .i64 0, .int .i64 0, .int .i64 0, .int .i64 0]) (.int .i64 1)).run Try.prog w4 = .ok () Wx := st
    have bl0 := build101
    have HST := Aside0.mk (show FrAt w B0 (lev (l.map bl) k 0) none 0 [] Wx by
      refine ⟨⟨_, _, m2, ?_⟩, Kd.R_nil _ _ _ _ _, (below_step HBW.out HB4.out).grown g2 (below_step HBW.out HB4.out).size (fun j e => by injection e with e; subst e; exact HBB.out), HBB.out⟩
      unfold lev
      rw [if_neg (fun h => by have := HV.out.2 (nil_mem.2 h); simp at this)]
      exact CntOf.nil.push mk0 (n := 1) (by omega))
    clear m2 g2
    go_upto_region 6 with (fail)
    clear HM1 HBW HBB HV HB4 st bl0
    go_wp2
    go_loopw [8, 9, 38] (fun v8 v9 v38 wr => ∃ (i B : Nat) (A : Option Addr) (c : Nat) (xs : List Int), v38 = .int .i64 i ∧ v8 = .map (some B) ∧ v9 = .slice A xs.length c ∧ i ≤ n + 1 ∧ Aside0 (xs = (List.range i).map fun j => ((lev (l.map bl) k j).length : Int)) ∧ Aside0 (FrAt w B (lev (l.map bl) k i) A c xs wr)) (fun _ _ v38 _ => n + 1 - (intOf v38).toNat)
    case atStart => exact ⟨0, B0, none, 0, [], rfl, rfl, rfl, by omega, ⟨rfl⟩, HST⟩
    case round =>
      clear HST
      obtain ⟨i, B, A9, c9, xs, rfl, rfl, rfl, hi, HX, HA⟩ := hrel
      by_cases hlt : i < n + 1
      · have hltI : (i : Int) < (n : Int) + 1 := by omega
        have HLT := Aside0.mk hlt
        have HS8 := Aside0.mk (show ∀ x ∈ l.map bl, x.length ≤ 8 from fun x hx => by
          obtain ⟨s, h1, rfl⟩ := List.mem_map.1 hx
          rw [bl_length]; exact H8.out s h1)
        obtain ⟨L, hL⟩ : ∃ L, lev (l.map bl) k i = L := ⟨_, rfl⟩
        have HLO := Aside0.mk (show ∀ m ∈ L, MOk (l.map bl) m by rw [← hL]; exact lev_ok HS8.out k i)
        have HLN := Aside0.mk (show L.length ≤ 1152921504606846976 by
          rw [← hL]
          have h1 := lev_le (l.map bl) k HK4.out i
          have h2 : 4 ^ i ≤ 4 ^ 30 := Nat.pow_le_pow_right (by omega) (by have := HN.out; omega)
          exact Nat.le_trans h1 (Nat.le_trans h2 (by decide)))
        have HLE := Aside0.mk hL
        have HA1 := Aside0.mk (show FrAt w B L A9 c9 xs wr by rw [← hL]; exact HA.out)
        obtain ⟨nn, f, m1, hcnt⟩ := HA1.out.mp
        obtain ⟨D, hown, hhas, hat⟩ := m1.ex
        have HCN := Aside0.mk hcnt
        have HAT := Aside0.mk hat
        have HHA := Aside0.mk hhas
        have HOW := Aside0.mk hown
        clear hlt hL m1 hcnt hat hhas hown HA hi
        go_upto_region 11 with (fail)
        have HOW1 := Aside0.mk (HOW.out.alloc (.map #[] 0))
        have HM2 := Aside0.mk (MapIs.made wr Try.prog 101)
        have HB2 := Aside0.mk (show Below wr.heap.size wr (wr.alloc (.map #[] 0)) from below_alloc (Below.refl _ _) _)
        have HSZ := Aside0.mk (World.size_alloc wr (.map #[] 0))
        obtain ⟨B2, hB2⟩ : ∃ B2, wr.heap.size = B2 := ⟨_, rfl⟩
        obtain ⟨W1, hW1⟩ : ∃ W1, wr.alloc (.map #[] 0) = W1 := ⟨_, rfl⟩
        have HNE := Aside0.mk (show B2 ≠ B ∧ w.heap.size ≤ B2 ∧ B < W1.heap.size from ⟨by have := HOW.out.lt; omega, by rw [← hB2]; exact HA1.out.bel.size, by rw [← hW1]; have := HOW.out.lt; rw [HSZ.out]; omega⟩)
        rw [hW1] at HOW1 HM2 HB2 HSZ ⊢
        rw [hB2] at HM2 HSZ ⊢
        have HBL := Aside0.mk (show Below w.heap.size w W1 from below_step HA1.out.bel (by have := HB2.out; exact this))
        have HRW := Aside0.mk (Kd.R_below HA1.out.row (by have := HB2.out; exact this))
        clear hW1 hB2 HOW HB2
        go_wp2_with (at_range; refine wpList_range_own _ rfl (.tmp 41) 99 rfl 101 3 keyed101 Try.underlying99 anyElem B nn D rfl HOW1.out ?_; intro w0 hrg0 hg0 hs0; have HR0 := Aside0.mk hrg0; have HG0 := Aside0.mk hg0; clear hrg0 hg0 hs0)
        go_frame
        obtain ⟨r0, hr0⟩ : ∃ r0, W1.heap.size = r0 := ⟨_, rfl⟩
        have HR1 := Aside0.mk (show w0.ranges Try.prog 101 anyElem B r0 nn D (Maps.has D) (Maps.size D) by rw [← hr0]; exact HR0.out)
        have HNR := Aside0.mk (show B2 ≠ r0 ∧ w.heap.size ≤ r0 from ⟨by rw [← hr0, HSZ.out]; omega, by rw [← hr0]; exact HBL.out.size⟩)
        have H0 := Aside0.mk (show FrR w B r0 nn D (Maps.has D) (Maps.size D) B2 (acc L (fun m => gos (l.map bl) m k) []) A9 c9 xs w0 from
          ⟨HR1.out, ⟨0, KMap.empty, HM2.out.kept HG0.out (by simp), by omega, CntOf.nil⟩, Kd.R_grown HRW.out HG0.out (by simp), HBL.out.grown HG0.out HBL.out.size (fun j e => by cases e), ⟨HNE.out.1, HNR.out.1, HNE.out.2.1, HNR.out.2⟩⟩)
        have HV0 := Aside0.mk (show Vis L [] (Maps.has D) from ⟨by simp, by simp, fun m hm => by
          have hM := (HLO.out m hm).mk'
          rw [HHA.out, HCN.out.at_ m hM, if_neg (by have := List.count_pos_iff.2 hm; omega)]
          simp⟩)
        rw [hr0]
        clear hr0 HR0 HR1 HOW1 HM2 HG0 HBL HRW HNE HNR HSZ HHA
        go_loopw [10] (fun v10 wq => ∃ (V : List (List Nat)) (left : Lit → Bool) (cnt : Nat), v10 = .int .i64 (((V.map fun m => L.count m).sum : Nat) : Int) ∧ Aside0 (Vis L V left) ∧ Aside0 (FrR w B r0 nn D left cnt B2 (acc L (fun m => gos (l.map bl) m k) V) A9 c9 xs wq)) (fun _ wq => wq.rangeLeft B r0)
        case atStart => exact ⟨[], _, _, rfl, HV0, H0⟩
        case round =>
          clear H0 HV0
          obtain ⟨V, left, cnt, rfl, HVI, HFR⟩ := hrel
          obtain ⟨S0, hS0⟩ : ∃ S0, (V.map fun m => L.count m).sum = S0 := ⟨_, rfl⟩
          have HS0 := Aside0.mk hS0
          rw [hS0]
          clear hS0
          go_wp2_with (at_next; refine wpList_next_ranges _ rfl (.tmp 42) rfl 101 keyed101 anyElem (fun x : Value => x) (fun x : Value => x) (fun key _ _ => ⟨key, rfl⟩) (fun v _ _ => ⟨v, rfl⟩) B r0 nn D left cnt rfl HFR.out.rg ?_ ?_)
          · intro hc0 hl0
            have hall : ∀ m ∈ L, m ∈ V := fun m hm => Classical.byContradiction fun hn => by
              have := (HVI.out.lf m hm).2 hn
              rw [hl0] at this
              cases this
            have HLV := Aside0.mk (show ∀ a, (acc L (fun m => gos (l.map bl) m k) V).count a = (lev (l.map bl) k (i + 1)).count a from fun a => by
              rw [acc_count HVI.out.nd hall, ← HLE.out]
              rfl)
            have HSL := Aside0.mk (show S0 = L.length by
              have h := sum_cover HVI.out.nd (fun _ => 1) L hall
              rw [ones] at h
              rw [← HS0.out, ← h]
              simp)
            have hxl : xs.length = i := by rw [HX.out]; simp
            have KEY := Aside0.mk (app_int (x := (S0 : Int)) HFR.out.row HFR.out.bel HFR.out.bel.size (fun _ _ => trivial) (by rw [hxl]; have := HLT.out; have := HN.out; omega) 73 75)
            have HXL := Aside0.mk hxl
            clear hc0 hl0 hall hxl
            go_wp2_with (at_builtin; refine KEY.out _ _ _ _ _ rfl rfl rfl rfl ?_; intro A3 c3 w3 hr3 hb3 hg3 hat3; have HR3 := Aside0.mk hr3; have HB3 := Aside0.mk hb3; have HG3 := Aside0.mk hg3; clear hr3 hb3 hg3 hat3)
            go_roundw
            case rel => exact ⟨i + 1, B2, A3, c3, xs ++ [(S0 : Int)], by go_num, rfl, by simp, by have := HLT.out; omega, ⟨by
              rw [List.range_succ, List.map_append, ← HX.out]
              simp only [List.map_cons, List.map_nil]
              rw [HLE.out, HSL.out]⟩, ⟨by
              obtain ⟨n2, f2, m2, _, h2⟩ := HFR.out.mp
              refine ⟨⟨n2, f2, m2.kept HG3.out (fun e => ?_), h2.perm HLV.out⟩, by rw [List.length_append]; exact HR3.out, HB3.out, HFR.out.ne.2.2.1⟩
              obtain ⟨cells, hc⟩ := Kd.R_typed HFR.out.row _ e.symm
              exact m2.notCells _ _ _ hc⟩⟩
            case measure => simp [intOf]; have := HLT.out; omega
          · intro x cv kl y1 y2 w1 cnt1 hkey hlk hv hat1 hrg1 hlt1 hg1 hs1 hen
            obtain ⟨m, hm, hM, rfl, rfl, rfl⟩ := visit (y := (y1, y2)) HCN.out HAT.out hkey hv hat1
            have HMM := Aside0.mk hm
            have HMO := Aside0.mk (HLO.out m hm)
            obtain ⟨hvs, hnv⟩ := HVI.out.step (fun m hm => (HLO.out m hm).mk') hm hlk
            have HVS := Aside0.mk hvs
            have HLT1 := Aside0.mk hlt1
            have HF1 := Aside0.mk (HFR.out.iter hg1 hrg1)
            obtain ⟨cm, hcm⟩ : ∃ cm, L.count m = cm := ⟨_, rfl⟩
            have HCM := Aside0.mk hcm
            have HCP := Aside0.mk (show 0 < cm by rw [← hcm]; exact List.count_pos_iff.2 hm)
            have HSB := Aside0.mk (show S0 + cm ≤ 1152921504606846976 by
              have h := sum_sub hvs.nd L
              rw [List.map_append, List.sum_append, HS0.out] at h
              have := HLN.out
              simp [hcm] at h
              omega)
            have hsb : (S0 : Int) + (cm : Int) ≤ 1152921504606846976 := by have := HSB.out; omega
            obtain ⟨m0, m1, m2, m3, e4⟩ := four HMO.out.len
            have HE4 := Aside0.mk e4
            have mc : mcells [m0, m1, m2, m3] = #[.int .i64 (m0 : Int), .int .i64 (m1 : Int), .int .i64 (m2 : Int), .int .i64 (m3 : Int)] := rfl
            rw [hcm, e4, mc] at hen
            rw [hcm, e4, mc]
            clear hkey hlk hv hat1 hrg1 hlt1 hg1 hs1 hm hM mc hvs hnv hcm e4
            go_wp2
            obtain ⟨gm, hgm⟩ : ∃ gm, w1.heap.size = gm := ⟨_, rfl⟩
            obtain ⟨W2, hW2⟩ : ∃ W2, w1.alloc (.cells #[.int .i64 (m0 : Int), .int .i64 (m1 : Int), .int .i64 (m2 : Int), .int .i64 (m3 : Int)] 101) = W2 := ⟨_, rfl⟩
            have HGM := Aside0.mk (show W2.heap[gm]? = some (.cells #[.int .i64 (m0 : Int), .int .i64 (m1 : Int), .int .i64 (m2 : Int), .int .i64 (m3 : Int)] 101 (0, 0)) by rw [← hW2, ← hgm]; exact blk_new _ _)
            have HF2 := Aside0.mk (show FrR w B r0 nn D (fun z => left z && !z.sameKey (quadK m)) cnt1 B2 (acc L (fun m => gos (l.map bl) m k) V ++ (gos (l.map bl) m 0).flatMap fun t => List.replicate cm t) A9 c9 xs W2 by
              have h := HF1.out.below (V' := W2) (by rw [← hW2]; exact below_alloc (Below.refl _ _) _)
              simpa [gos] using h)
            rw [hW2, hgm]
            clear hW2 hgm hen
            go_loopw [52] (fun v52 wz => ∃ cc : Nat, v52 = .int .i64 cc ∧ cc ≤ k ∧ Aside0 (wz.heap[gm]? = some (.cells #[.int .i64 (m0 : Int), .int .i64 (m1 : Int), .int .i64 (m2 : Int), .int .i64 (m3 : Int)] 101 (0, 0))) ∧ Aside0 (FrR w B r0 nn D (fun z => left z && !z.sameKey (quadK m)) cnt1 B2 (acc L (fun m => gos (l.map bl) m k) V ++ (gos (l.map bl) m cc).flatMap fun t => List.replicate cm t) A9 c9 xs wz)) (fun v52 _ => k - (intOf v52).toNat)
            case atStart => exact ⟨0, rfl, by omega, HGM, HF2⟩
            case round =>
              clear HGM HF2
              obtain ⟨cc, rfl, hcc, HGM, HF2⟩ := hrel
              by_cases hlt : cc < k
              · have hltI : (cc : Int) < (k : Int) := by omega
                have c1 : wr.cell? ⟨gm, 0, none⟩ = some (.int .i64 (m0 : Int)) := (blk_cell HGM.out 0).trans rfl
                have c2 : wr.cell? ⟨gm, 1, none⟩ = some (.int .i64 (m1 : Int)) := (blk_cell HGM.out 1).trans rfl
                have c3 : wr.cell? ⟨gm, 2, none⟩ = some (.int .i64 (m2 : Int)) := (blk_cell HGM.out 2).trans rfl
                have c4 : wr.cell? ⟨gm, 3, none⟩ = some (.int .i64 (m3 : Int)) := (blk_cell HGM.out 3).trans rfl
                have hcv : IntKind.u8.wrap (97 + (cc : Int)) = 97 + (cc : Int) := by
                  have h1 : (cc : Int) < 4 := by omega
                  have h0 : (0 : Int) ≤ (cc : Int) := by omega
                  show (97 + (cc : Int)) % 256 = 97 + (cc : Int)
                  omega
                have hcc4 : cc < 4 := by have := HK4.out; omega
                obtain ⟨ra, hra⟩ : ∃ ra, aft (l.map bl) m (97 + cc) = ra := ⟨_, rfl⟩
                have HRA := Aside0.mk hra
                have HLT2 := Aside0.mk hlt
                have AF := Aside0.mk (show Calls Try.prog 66 #[.agg #[.int .i64 (m0 : Int), .int .i64 (m1 : Int), .int .i64 (m2 : Int), .int .i64 (m3 : Int)], .slice A l.length c, .int .u8 (97 + (cc : Int))] wr (AfPost ra wr) from by
                  have h := after_m A c l wr (Kd.C_below HC.out HF2.out.bel) HL.out H8.out m HMO.out cc hcc4 ra hra
                  rw [HE4.out] at h
                  exact h)
                clear hlt hra hcc
                go_upto_region 19 with (go_at_call 66; (with_reducible refine AF.out.mono ?_); rintro e w5 ⟨b0, b1, b2, b3, rfl, hb4, hb⟩; have HB4 := Aside0.mk hb4; have HB5 := Aside0.mk hb; clear hb4 hb)
                have HGM5 := Aside0.mk (blk_alloc (blk_below HGM.out HB5.out) (.cells #[.int .i64 (b0 : Int), .int .i64 (b1 : Int), .int .i64 (b2 : Int), .int .i64 (b3 : Int)] 101))
                have HF5 := Aside0.mk (HF2.out.below (V' := w5.alloc (.cells #[.int .i64 (b0 : Int), .int .i64 (b1 : Int), .int .i64 (b2 : Int), .int .i64 (b3 : Int)] 101)) (below_alloc HB5.out _))
                have HGT := Aside0.mk (blk_new w5 (.cells #[.int .i64 (b0 : Int), .int .i64 (b1 : Int), .int .i64 (b2 : Int), .int .i64 (b3 : Int)] 101))
                obtain ⟨gt, hgt⟩ : ∃ gt, w5.heap.size = gt := ⟨_, rfl⟩
                obtain ⟨W6, hW6⟩ : ∃ W6, w5.alloc (.cells #[.int .i64 (b0 : Int), .int .i64 (b1 : Int), .int .i64 (b2 : Int), .int .i64 (b3 : Int)] 101) = W6 := ⟨_, rfl⟩
                rw [hW6] at HGM5 HF5 HGT ⊢
                rw [hgt] at HGT ⊢
                clear hW6 hgt HB5 AF c1 c2 c3 c4 hcv
                cases ra with
                | none =>
                  go_wp2
                  go_roundw
                  case rel => exact ⟨cc + 1, by go_num, by have := HLT2.out; omega, HGM5, ⟨by
                    rw [gos_succ, HRA.out]
                    simpa using HF5.out⟩⟩
                  case measure => simp [intOf]; have := HLT2.out; omega
                | some t =>
                  have ht : t = [b0, b1, b2, b3] := HB4.out t (by first | rfl | trivial)
                  have HTO := Aside0.mk (aft_ok HS8.out HMO.out HRA.out)
                  obtain ⟨T, hT⟩ : ∃ T, (acc L (fun m => gos (l.map bl) m k) V ++ (gos (l.map bl) m cc).flatMap fun t => List.replicate cm t) = T := ⟨_, rfl⟩
                  have HTL := Aside0.mk (show T.length ≤ 4611686018427387904 by
                    have h1 := acc_le L (fun m => gos (l.map bl) m k) 4 V (fun m _ => Nat.le_trans (gos_len _ _ _) HK4.out)
                    have h2 := gos_len (l.map bl) m cc
                    have h3 := Nat.mul_le_mul_left cm (Nat.le_trans h2 (Nat.le_of_lt hcc4))
                    rw [HS0.out] at h1
                    have h4 := HSB.out
                    rw [← hT, List.length_append, length_rep]
                    omega)
                  have HF6 := Aside0.mk (show FrR w B r0 nn D (fun z => left z && !z.sameKey (quadK m)) cnt1 B2 T A9 c9 xs W6.drew by rw [← hT]; exact HF5.out.below (below_drew (Below.refl _ _)))
                  have HTT := Aside0.mk (show ∀ V', FrR w B r0 nn D (fun z => left z && !z.sameKey (quadK m)) cnt1 B2 (T ++ List.replicate cm t) A9 c9 xs V' → FrR w B r0 nn D (fun z => left z && !z.sameKey (quadK m)) cnt1 B2 (acc L (fun m => gos (l.map bl) m k) V ++ (gos (l.map bl) m (cc + 1)).flatMap fun t => List.replicate cm t) A9 c9 xs V' from fun V' h => by
                    rw [gos_succ, HRA.out, List.flatMap_append, ← List.append_assoc, hT]
                    simpa using h)
                  obtain ⟨n2, f2, m2, hn2, hc2⟩ := HF6.out.mp
                  have hMk := HTO.out.mk'
                  obtain ⟨ct, hct⟩ : ∃ ct, T.count t = ct := ⟨_, rfl⟩
                  have hcl : ct ≤ T.length := by rw [← hct]; exact List.count_le_length
                  obtain ⟨st, W7, r7, m7, g7, hst⟩ := m2.entry (t := 99) (e := 3) law101 Try.underlying99 (by have := HTL.out; unfold maxLen; omega) zero3 (key101 t hMk.1 hMk.2)
                  obtain ⟨W8, r8, m8, g8⟩ := hst (.int .i64 ((ct : Int) + (cm : Int)))
                  have lk6 := m2.look (t := 99) (e := 3) keyed101 Try.underlying99 (zero3 _) (key101 t hMk.1 hMk.2)
                  have lk7 := m7.look (t := 99) (e := 3) keyed101 Try.underlying99 (zero3 _) (key101 t hMk.1 hMk.2)
                  rw [KMap.put_same f2 (keyed101.key (key101 t hMk.1 hMk.2))] at lk7
                  rw [hc2.getD hMk, hct] at lk6 r7 lk7
                  have HF8 := Aside0.mk (HF6.out.store g8 (T' := T ++ List.replicate cm t) ⟨n2 + 1, _, m8, by have := HCP.out; simp; omega, by rw [← hct]; exact hc2.push hMk HCP.out⟩)
                  have HGM8 := Aside0.mk (cells_past g8 (show W6.drew.heap[gm]? = _ from HGM5.out) m2.notCells)
                  have HGT7 := Aside0.mk (cells_past g7 (show W6.drew.heap[gt]? = _ from HGT.out) m2.notCells)
                  rw [ht] at r7 lk6 lk7
                  replace lk6 : (Instr.lookup 99 (.map (some B2)) (.agg #[.int .i64 (b0 : Int), .int .i64 (b1 : Int), .int .i64 (b2 : Int), .int .i64 (b3 : Int)]) false).run Try.prog W6.drew = .ok (.int .i64 (ct : Int)) W6.drew := lk6
                  replace lk7 : (Instr.lookup 99 (.map (some B2)) (.agg #[.int .i64 (b0 : Int), .int .i64 (b1 : Int), .int .i64 (b2 : Int), .int .i64 (b3 : Int)]) false).run Try.prog W7 = .ok (.int .i64 (ct : Int)) W7 := lk7
                  replace r7 : (Instr.mapEntry 99 (.map (some B2)) (.agg #[.int .i64 (b0 : Int), .int .i64 (b1 : Int), .int .i64 (b2 : Int), .int .i64 (b3 : Int)])).run Try.prog W6.drew = .ok (.tuple #[.int .i64 (ct : Int), st]) W7 := r7
                  have c9 : IntKind.i64.wrap ((ct : Int) + (cm : Int)) = (ct : Int) + (cm : Int) := IntWalk.i64_in _ (by have := HTL.out; have := HSB.out; omega)
                  have q0 : W6.drew.cell? ⟨gt, 0, none⟩ = some (.int .i64 (b0 : Int)) := (blk_cell (show W6.drew.heap[gt]? = _ from HGT.out) 0).trans rfl
                  have q1 : W6.drew.cell? ⟨gt, 1, none⟩ = some (.int .i64 (b1 : Int)) := (blk_cell (show W6.drew.heap[gt]? = _ from HGT.out) 1).trans rfl
                  have q2 : W6.drew.cell? ⟨gt, 2, none⟩ = some (.int .i64 (b2 : Int)) := (blk_cell (show W6.drew.heap[gt]? = _ from HGT.out) 2).trans rfl
                  have q3 : W6.drew.cell? ⟨gt, 3, none⟩ = some (.int .i64 (b3 : Int)) := (blk_cell (show W6.drew.heap[gt]? = _ from HGT.out) 3).trans rfl
                  have p0 : W7.cell? ⟨gt, 0, none⟩ = some (.int .i64 (b0 : Int)) := (blk_cell HGT7.out 0).trans rfl
                  have p1 : W7.cell? ⟨gt, 1, none⟩ = some (.int .i64 (b1 : Int)) := (blk_cell HGT7.out 1).trans rfl
                  have p2 : W7.cell? ⟨gt, 2, none⟩ = some (.int .i64 (b2 : Int)) := (blk_cell HGT7.out 2).trans rfl
                  have p3 : W7.cell? ⟨gt, 3, none⟩ = some (.int .i64 (b3 : Int)) := (blk_cell HGT7.out 3).trans rfl
                  clear hn2 hc2 m2 hMk hct hcl m7 g7 hst m8 g8 hT ht
                  go_upto_region 20 with (fail)
                  refine start_ (n := 8) (S := fun w' => (Instr.lookup 99 (.map (some B2)) (.agg #[.int .i64 (b0 : Int), .int .i64 (b1 : Int), .int .i64 (b2 : Int), .int .i64 (b3 : Int)]) false).run Try.prog w' = .ok (.int .i64 (ct : Int)) w' ∧ w'.cell? ⟨gt, 0, none⟩ = some (.int .i64 (b0 : Int)) ∧ w'.cell? ⟨gt, 1, none⟩ = some (.int .i64 (b1 : Int)) ∧ w'.cell? ⟨gt, 2, none⟩ = some (.int .i64 (b2 : Int)) ∧ w'.cell? ⟨gt, 3, none⟩ = some (.int .i64 (b3 : Int))) (ds := [7]) #[false, false, false, false, false, false, false, false] (by kernel_rfl) rfl rfl ⟨lk6, q0, q1, q2, q3⟩ (fun hHeld => ?_)
                  refine pure_ (i := 0) (N := (some 65)) (v := ?_) (a' := ?_) #[true, false, false, false, false, false, false, false] rfl rfl (by kernel_rfl) (fun _ _ _ h => h) (Or.inl ⟨by rfl, ?_⟩) ?_ ?_
                  rotate_left
                  · intro w'
                    go_simp
                    with_reducible rfl
                  rotate_left
                  · simp only [Act.put, List.setIfInBounds_toArray, List.set_cons_zero, List.set_cons_succ, i64_w, i32_w]
                    rfl
                  refine take_ (i := 1) (N := (some 66)) (v := ?_) (a' := ?_) #[true, true, false, false, false, false, false, false] rfl rfl (by kernel_rfl) (fun _ _ _ h => h) (Or.inl ⟨by rfl, ?_⟩) hHeld ?_ ?_
                  rotate_left
                  · rintro w' ⟨s0, s1, s2, s3, s4⟩
                    go_simp
                    with_reducible rfl
                  rotate_left
                  · simp only [Act.put, List.setIfInBounds_toArray, List.set_cons_zero, List.set_cons_succ, i64_w, i32_w]
                    rfl
                  refine take_ (i := 2) (N := (some 67)) (v := ?_) (a' := ?_) #[true, true, true, false, false, false, false, false] rfl rfl (by kernel_rfl) (fun _ _ _ h => h) (Or.inl ⟨by rfl, ?_⟩) hHeld ?_ ?_
                  rotate_left
                  · rintro w' ⟨s0, s1, s2, s3, s4⟩
                    go_simp
                    with_reducible rfl
                  rotate_left
                  · simp only [Act.put, List.setIfInBounds_toArray, List.set_cons_zero, List.set_cons_succ, i64_w, i32_w]
                    rfl
                  refine pure_ (i := 3) (N := (some 68)) (v := ?_) (a' := ?_) #[true, true, true, true, false, false, false, false] rfl rfl (by kernel_rfl) (fun _ _ _ h => h) (Or.inl ⟨by rfl, ?_⟩) ?_ ?_
                  rotate_left
                  · intro w'
                    go_simp
                    with_reducible rfl
                  rotate_left
                  · simp only [Act.put, List.setIfInBounds_toArray, List.set_cons_zero, List.set_cons_succ, i64_w, i32_w]
                    rfl
                  refine pure_ (i := 4) (N := (some 69)) (v := ?_) (a' := ?_) #[true, true, true, true, true, false, false, false] rfl rfl (by kernel_rfl) (fun _ _ _ h => h) (Or.inl ⟨by rfl, ?_⟩) ?_ ?_
                  rotate_left
                  · intro w'
                    go_simp
                    with_reducible rfl
                  rotate_left
                  · simp only [Act.put, List.setIfInBounds_toArray, List.set_cons_zero, List.set_cons_succ, i64_w, i32_w]
                    rfl
                  refine one_ (i := 5) (N := (some 70)) #[true, true, true, true, true, true, false, false] rfl rfl (by kernel_rfl) (by decide) (fun K hK => ?_)
                  refine value_ (w1 := ?_) (v := ?_) (by rfl) rfl ?_ ?_
                  rotate_left 2
                  · go_simp
                    constructor
                    · rfl
                    · rfl
                  refine hK.out _ _ ⟨lk7, p0, p1, p2, p3⟩ (fun hHeld => ?_)
                  clear hK K
                  refine norm_ (a' := ?_) ?_ ?_
                  rotate_left
                  · show Act.put _ (some 70) _ = _
                    simp only [Act.put, List.setIfInBounds_toArray, List.set_cons_zero, List.set_cons_succ, i64_w, i32_w]
                    rfl
                  refine pure_ (i := 6) (N := (some 71)) (v := ?_) (a' := ?_) #[true, true, true, true, true, true, true, false] rfl rfl (by kernel_rfl) (fun _ _ _ h => h) (Or.inl ⟨by rfl, ?_⟩) ?_ ?_
                  rotate_left
                  · intro w'
                    go_simp
                    with_reducible rfl
                  rotate_left
                  · simp only [Act.put, List.setIfInBounds_toArray, List.set_cons_zero, List.set_cons_succ, i64_w, i32_w]
                    rfl
                  refine last_ (i := 7) (N := none) #[true, true, true, true, true, true, true, true] rfl rfl (by kernel_rfl) (by decide) (fun K hK => ?_)
                  refine skip_ (w1 := ?_) (by rfl) rfl ?_ ?_
                  rotate_left
                  · go_simp
                    rfl
                  refine hK.out _ _ ?_
                  clear hK K
                  refine done_ (by kernel_rfl) ?_
                  go_wp2
                  go_roundw
                  case rel => exact ⟨cc + 1, by go_num, by have := HLT2.out; omega, HGM8, ⟨HTT.out _ HF8.out⟩⟩
                  case measure => simp [intOf]; have := HLT2.out; omega
              · have hltI : ¬ ((cc : Int) < (k : Int)) := by omega
                have hce : cc = k := by omega
                subst hce
                clear hlt
                go_wp2
                go_roundw
                case rel => exact ⟨V ++ [m], _, cnt1, by rw [List.map_append, List.sum_append, HS0.out]; simp [HCM.out], HVS, ⟨by
                  have h := HF2.out
                  rw [acc_snoc, HCM.out]
                  exact h⟩⟩
                case measure =>
                  rw [HF2.out.rg.left_eq, HFR.out.rg.left_eq]
                  exact HLT1.out
      · have hltI : ¬ ((i : Int) < (n : Int) + 1) := by omega
        have hin : i = n + 1 := by omega
        subst hin
        clear hlt
        go_wp2
        go_ret2
        have hxl : xs.length = (freeL (l.map bl) k n).length := by rw [HX.out]; simp [freeL]
        have hxm : xs = (freeL (l.map bl) k n).map fun (n : Nat) => (n : Int) := by rw [HX.out]; unfold freeL; rw [List.map_map]; rfl
        refine ⟨A9, c9, by rw [← hxl]; rfl, ?_, HA.out.bel⟩
        rw [← hxl, ← hxm]
        exact HA.out.row
end Go.Proofs.Ytagdbadljcongaa.X
end

section
/- slices.Max at a row of whole numbers. -/
set_option linter.unusedVariables false
set_option linter.unusedSimpArgs false
namespace Go.Proofs.Ytagdbadljcongaa.X
open Go Go.RowKit Go.Proofs.YtagdbadljcongaaW.PrintWords Go.Proofs.YtagdbadljcongaaW.PrintLast Go.Proofs.YtagdbadljcongaaW.PrintMore
set_option maxHeartbeats 2000000 in
set_option maxRecDepth 100000 in
theorem max_any (w : World) (b off k c : Nat) (f : Nat → Nat) (hk : 1 ≤ k) (hk4 : k ≤ 4) (hf : ∀ j, j < k → w.cell? ⟨b, off + j, none⟩ = some (.int .i64 (f j))) (hb : ∀ j, j < k → f j ≤ 1000000) :
    Calls Try.prog 51 #[.slice (some ⟨b, off, none⟩) k c] w fun e w' => e = .returned (.int .i64 (maxF f (k - 1) : Nat)) ∧ w = w' := by
  have HF := Aside0.mk hf
  have HB := Aside0.mk hb
  have h0 : w.cell? ⟨b, off, none⟩ = some (.int .i64 (f 0)) := hf 0 (by omega)
  have hI : ((k : Int) < 1) = False := eq_false (by omega)
  have hI2 : (0 : Int) < (k : Int) := by omega
  have hk5 : (k : Int) ≤ 4 := by omega
  clear hf hb
  go_enter Try.func51, Try.ntmps51
  go_wp2
  go_loop [3, 4] (fun v3 v4 => ∃ j : Nat, v4 = .int .i64 ((j : Int) + 1) ∧ v3 = .int .i64 (maxF f j : Nat) ∧ j < k) (fun _ v4 => k - (intOf v4).toNat)
  case atStart => exact ⟨0, rfl, rfl, by omega⟩
  case round =>
    obtain ⟨j, rfl, rfl, hj⟩ := hrel
    by_cases hlt : j + 1 < k
    · have h1 := HF.out (j + 1) hlt
      have h2 : ((j : Int) + 1) < (k : Int) := by omega
      have h3 : (0 : Int) ≤ (j : Int) + 1 := by omega
      have h4 : ((j : Int) + 1).toNat = j + 1 := by omega
      have HLT := Aside0.mk hlt
      clear hlt
      go_wp2
      go_round
      case rel => exact ⟨j + 1, by go_num, by show _ = Value.int .i64 ((max (maxF f j) (f (j + 1)) : Nat) : Int); congr 1; omega, HLT.out⟩
      case measure => simp [intOf]; have := HLT.out; omega
    · have h2 : ¬ (((j : Int) + 1) < (k : Int)) := by omega
      have e : j = k - 1 := by omega
      clear hlt hj
      go_wp2
      go_ret
      exact ⟨rfl, rfl⟩
end Go.Proofs.Ytagdbadljcongaa.X
end

section
/- thread.Arches. -/
set_option linter.unusedVariables false
set_option linter.unusedSimpArgs false
namespace Go.Proofs.Ytagdbadljcongaa.X
open Go Go.RowKit Go.Proofs.YtagdbadljcongaaW.PrintWords Go.Proofs.YtagdbadljcongaaW.PrintLast Go.Proofs.YtagdbadljcongaaW.PrintMore
/-- What Arches returns. -/
def ArPost (xs : List Nat) (w : World) (e : Ending) (w' : World) : Prop :=
  ∃ v, e = .returned (.tuple #[v, .int .i64 0]) ∧ Kd.R (Kd.int .i64) 3 w' w.heap.size (fun _ => True) v (xs.map fun (n : Nat) => (n : Int)) ∧ Below w.heap.size w w'
theorem max_word (w : World) (b k c i m : Nat) (s : ByteArray) (hw : WordAt w b s) (hs : s.size ≤ 60) (hi : i ≤ s.size) (hk : 1 ≤ k) (hk4 : k ≤ 4) (hm : amx (bl s) k i = m) :
    Calls Try.prog 51 #[.slice (some ⟨b, 1 + i * 4, none⟩) k c] w fun e w' => e = .returned (.int .i64 m) ∧ w = w' := by
  subst hm
  exact max_any w b (1 + i * 4) k c (fun c => nx (bl s) i (97 + c)) hk hk4 (fun j hj => hw.cell hs hi (by omega)) (fun j _ => by have := (nx_le (bl s) i (97 + j) (by rw [bl_length]; exact hi)).2; rw [bl_length] at this; omega)
set_option maxHeartbeats 4000000 in
set_option maxRecDepth 100000 in
theorem arches_ok (s : ByteArray) (k : Nat) (w : World) (hs : isW (bl s) = true) (hk : 1 ≤ k) (hk4 : k ≤ 4) (ho : ovr (bl s) k = true) (R : List Nat) (hR : arch (bl s) k 0 = R) : Calls Try.prog 18 #[.string s, .int .i64 k] w (ArPost R w) := by
  have HS := Aside0.mk hs
  have HS60 := Aside0.mk (show s.size ≤ 60 by rw [← bl_length]; exact ((isW_iff _).1 hs).1)
  have HK := Aside0.mk hk
  have HK4 := Aside0.mk hk4
  have HO := Aside0.mk ho
  have HR := Aside0.mk hR
  have kI1 : (1 : Int) ≤ (k : Int) := by omega
  have kI4 : (k : Int) ≤ 4 := by omega
  clear hs hk hk4 ho hR
  go_enter Try.func18, Try.ntmps18
  go_wp2_with (first | (go_at_call 48; (with_reducible refine (newWord_yes s _ HS.out).mono ?_); rintro e w1 ⟨rfl, hwd, hb⟩; have HWS := Aside0.mk hwd; have HB := Aside0.mk hb; clear hwd hb) | (go_at_call 49; (with_reducible refine (within_y _ _ _ _ (by omega) (by omega)).mono ?_); rintro e w2 ⟨rfl, HDR⟩; have HB2 := Aside0.mk HDR.below; clear HDR) | (go_at_call 50; (with_reducible refine (over_any s k _ HS.out HK.out HK4.out true HO.out).mono ?_); rintro e w3 ⟨rfl, hb⟩; have HB3 := Aside0.mk hb; clear hb))
  have HWD := Aside0.mk ((HWS.out.below HB2.out).below HB3.out)
  have HB0 := Aside0.mk (below_step (below_step HB.out HB2.out) HB3.out)
  obtain ⟨b, hb⟩ : ∃ b, w.heap.size = b := ⟨_, rfl⟩
  simp only [hb] at HWD ⊢
  replace hb := Aside0.mk hb
  clear HB HB2 HB3 HWS
  go_loopw [8, 9] (fun v8 v9 wr => ∃ (i : Nat) (A : Option Addr) (c : Nat) (xs : List Int), v9 = .int .i64 i ∧ v8 = .slice A xs.length c ∧ i ≤ s.size ∧ Aside0 (xs.length ≤ i) ∧
      Aside0 (Kd.R (Kd.int .i64) 3 wr w3.heap.size (fun _ => True) (.slice A xs.length c) xs) ∧ Aside0 (Below w3.heap.size w3 wr) ∧ Aside0 (∃ pre : List Nat, xs = pre.map (fun (n : Nat) => (n : Int)) ∧ pre ++ arch (bl s) k i = R)) (fun _ v9 _ => s.size + 1 - (intOf v9).toNat)
  case atStart => exact ⟨0, none, 0, [], rfl, rfl, by omega, ⟨by simp⟩, ⟨Kd.R_nil _ _ _ _ _⟩, ⟨Below.refl _ _⟩, ⟨[], rfl, HR.out⟩⟩
  case round =>
    obtain ⟨i, A, c, xs, rfl, rfl, hi, HP, HRW, HB, HE⟩ := hrel
    clear HR
    obtain ⟨m, hm⟩ : ∃ m, amx (bl s) k i = m := ⟨_, rfl⟩
    have hm1 := amx_le (k := k) (show i ≤ (bl s).length by rw [bl_length]; exact hi)
    rw [hm, bl_length] at hm1
    have HM := Aside0.mk hm
    have HM1 := Aside0.mk hm1
    have HI := Aside0.mk hi
    have HWR := Aside0.mk (HWD.out.below HB.out)
    have iI : (i : Int) < 61 := by have := HS60.out; omega
    have iI0 : (0 : Int) ≤ (i : Int) := by omega
    have mI : (m : Int) ≤ 60 := by have := HS60.out; omega
    have HEQ := Aside0.mk (arch_eq (k := k) (show i ≤ (bl s).length by rw [bl_length]; exact hi))
    clear hm hm1 hi
    by_cases hlt : m < s.size
    · have HLT := Aside0.mk hlt
      have hne : ((m : Int) == (s.size : Int)) = false := beq_eq_false_iff_ne.mpr (by omega)
      have hne2 : (m == s.size) = false := beq_eq_false_iff_ne.mpr (by omega)
      have KEY := Aside0.mk (app_int (x := (m : Int)) HRW.out HB.out HB.out.size (fun _ _ => trivial) (by have := HP.out; have := HI.out; have := HS60.out; omega) 42 44)
      clear hlt
      go_wp2_with (first | (go_at_call 51; (with_reducible refine (max_word _ b k _ i m s HWR.out HS60.out HI.out HK.out HK4.out HM.out).mono ?_); rintro e w' ⟨rfl, rfl⟩) | (at_builtin; refine KEY.out _ _ _ _ _ rfl rfl rfl rfl ?_; intro A2 c2 w4 hr3 hb3 hg3 hat3; have HR3 := Aside0.mk hr3; have HB3 := Aside0.mk hb3; clear hr3 hb3 hg3 hat3))
      go_roundw
      case rel => exact ⟨m + 1, A2, c2, xs ++ [(m : Int)], by go_num, by simp, by have := HLT.out; omega, ⟨by have := HP.out; have := HM1.out; simp; omega⟩, ⟨by rw [List.length_append]; exact HR3.out⟩, HB3, ⟨by
        obtain ⟨pre, h1, h2⟩ := HE.out
        have h3 := HEQ.out
        rw [HM.out, if_pos (by rw [bl_length]; exact HLT.out)] at h3
        refine ⟨pre ++ [m], by rw [h1]; simp, ?_⟩
        rw [← h2, h3]; simp⟩⟩
      case measure => simp [intOf]; have h1 := HLT.out; have h2 := HM1.out; omega
    · have hme : m = s.size := by have h1 := HM1.out; omega
      have HME := Aside0.mk hme
      have hne : ((m : Int) == (s.size : Int)) = true := beq_iff_eq.mpr (by omega)
      have hne2 : (m == s.size) = true := beq_iff_eq.mpr (by omega)
      clear hlt hme
      go_wp2_with (go_at_call 51; (with_reducible refine (max_word _ b k _ i m s HWR.out HS60.out HI.out HK.out HK4.out HM.out).mono ?_); rintro e w' ⟨rfl, rfl⟩)
      go_ret2
      obtain ⟨pre, h1, h2⟩ := HE.out
      have h3 := HEQ.out
      rw [HM.out, if_neg (by rw [bl_length]; have := HME.out; omega)] at h3
      rw [h3, List.append_nil] at h2
      subst h2
      refine ⟨_, rfl, ?_, HB0.out.trans (HB.out.mono HB0.out.size)⟩
      rw [← h1]
      exact Kd.R_lower HRW.out HB0.out.size
end Go.Proofs.Ytagdbadljcongaa.X
end
