/- Texts behind TestsGreedy, part 31: contracts of the program's functions and the plain words for them. -/
import Derived.Test.YtekmiepdodaidaaDoorTpas
import Derived.Test.YtekmiepdodaidaaDoorTpav
import Derived.Test.YtekmiepdodaidaaDoorTpbb
section
/- tickingref07.chosen, by hand: rows that came in as elements of a list of the call's own; the case of a full list. -/
set_option linter.unusedVariables false
set_option linter.unusedSimpArgs false
namespace Go.Proofs.YtekmiepdodaidaaDoor.X
open Go.RowKit Go.Proofs.YtekmiepdodaidaaDoorW.PrintWords Go.Proofs.YtekmiepdodaidaaDoorW.PrintLast Go.Proofs.YtekmiepdodaidaaDoorW.PrintMore

/-- A row of whole numbers that was there at W0. -/
def frow (W0 : World) : Kd (List Int) where
 sz := 1
 E := []
 K := fun _ x cs => ∃ A c, cs = [.slice A x.length c] ∧ x.length ≤ c ∧ Kd.C (Kd.int .i64) W0 A x.length x
 M := fun _ _ _ x cs => ∃ A c, cs = [.slice A x.length c] ∧ x.length ≤ c ∧ Kd.C (Kd.int .i64) W0 A x.length x
 K_len := by rintro w x cs ⟨A, c, rfl, _⟩; rfl
 K_one := by rintro w x cs ⟨A, c, rfl, _⟩ u hu; rw [List.mem_singleton.1 hu]; rfl
 K_below := fun _ h => h
 K_of_M := fun h => h
 M_mono := fun _ h => h
 M_bound := fun h => h
 M_move := fun _ h => h
 M_lower := fun _ h => h
theorem frow_C {W0 w : World} {A : Option Addr} {n : Nat} {xs : List (List Int)} (h : (frow W0).C w A n xs) (hb : Below W0.heap.size W0 w) : (Kd.slice 3 (Kd.int .i64)).C w A n xs := by
 unfold Kd.C at h ⊢
 exact ReadsRow.imp_ h (Below.refl _ _) (fun p c ⟨A, cc, h1, h2, h3⟩ => ⟨A, cc, h1, h2, Kd.C_below h3 hb⟩)
/-- The reference's Alike does not look at the costs. -/
theorem ralike_cost (a : List Int) (b : List (List Int)) (c c' : List Int) : ∀ k, (∀ y0 y1, tickingref07_Alike.l0 k y0 y1 a b c = tickingref07_Alike.l0 k y0 y1 a b c') ∧ (∀ y0 y1 y2, tickingref07_Alike.l1 k y0 y1 y2 a b c = tickingref07_Alike.l1 k y0 y1 y2 a b c') ∧ (∀ y0 y1 y2 y3 y4, tickingref07_Alike.l2 k y0 y1 y2 y3 y4 a b c = tickingref07_Alike.l2 k y0 y1 y2 y3 y4 a b c')
 | 0 => ⟨fun _ _ => by simp only [tickingref07_Alike.l0], fun _ _ _ => by simp only [tickingref07_Alike.l1], fun _ _ _ _ _ => by simp only [tickingref07_Alike.l2]⟩
 | k + 1 => by
  obtain ⟨h0, h1, h2⟩ := ralike_cost a b c c' k
  exact ⟨fun _ _ => by simp only [tickingref07_Alike.l0, h1], fun _ _ _ => by simp only [tickingref07_Alike.l1, h0, h2], fun _ _ _ _ _ => by simp only [tickingref07_Alike.l2, h1, h2]⟩
/-- The rows of a list of tests. -/
def rowsOf (b : List (List Int)) (l : List Int) : List (List Int) := l.map (rd_L1 b)
/-- The first list that begins with l, has m more tests, and tells all faults apart. -/
def chLoop (f : List Int → List Int × Bool) (l : List Int) : Nat → Nat → List Int × Bool
 | _, 0 => ([], false)
 | t, n + 1 => if (f (l ++ [(t : Int)])).2 = true then ((f (l ++ [(t : Int)])).1, true) else chLoop f l (t + 1) n
def fromB (l : List Int) : Nat := if l.length = 0 then 0 else (rd l ((l.length : Int) - 1)).toNat + 1
def chosenB (a : List Int) (b : List (List Int)) : Nat → List Int → List Int × Bool
 | 0, l => (l, decide (alikeL (onesOf (rowsOf b l)) a.length = []))
 | m + 1, l => chLoop (chosenB a b m) l (fromB l) (b.length - fromB l)
section
variable {a : List Int} {b : List (List Int)} {c : List Int}
theorem rows_case (h : CaseIs a b c) {l : List Int} (hl : l.length ≤ 12) (hm : ∀ x ∈ l, 0 ≤ x ∧ x < (b.length : Int)) : CaseIs a (rowsOf b l) (List.replicate (rowsOf b l).length 1) := by
 refine ⟨h.a1, h.a10, by unfold rowsOf; rw [List.length_map]; exact hl, List.length_replicate .., h.wa, fun x hx => by rw [(List.mem_replicate.1 hx).2]; omega, ?_⟩
 rw [List.all_eq_true]
 intro r hr
 obtain ⟨x, hx, rfl⟩ := List.mem_map.1 hr
 have := hm x hx
 refine List.all_eq_true.1 h.rows _ ?_
 have hxb : x.toNat < b.length := by omega
 unfold rd_L1
 rw [List.getD_eq_getElem?_getD, List.getElem?_eq_getElem hxb]
 exact List.getElem_mem hxb
theorem rows_alike (h : CaseIs a b c) {l : List Int} (hl : l.length ≤ 12) (hm : ∀ x ∈ l, 0 ≤ x ∧ x < (b.length : Int)) : ∃ k, tickingref07_Alike.f k a (rowsOf b l) [] = some (alikeL (onesOf (rowsOf b l)) a.length) := by
 obtain ⟨k, hk⟩ := (ralike_ev (rows_case h hl hm)).rounds
 refine ⟨k, ?_⟩
 rw [← hk]
 exact (ralike_cost a (rowsOf b l) [] _ k).1 [] 0
end
theorem info22t : (Tryd.prog.info? 22).map (fun i => (i.zero, i.size, i.bytes)) = some (some (.slice none 0 0), 1, 24) := by kernel_rfl
def ChPost (base : Nat) (r : List Int × Bool) (w : World) (e : Ending) (w' : World) : Prop := ∃ v, e = .returned (.tuple #[v, .bool r.2]) ∧ Kd.R (Kd.int .i64) 3 w' base (fun _ => True) v r.1 ∧ Below w.heap.size w w'
section
variable {A0 : Option Addr} {c0 : Nat} {a : List Int} {A1 : Option Addr} {c1 : Nat} {b : List (List Int)} {A2 : Option Addr} {c2 : Nat} {c : List Int} {w : World}
/-- What region 8 reads. -/
theorem chS {W : World} {g3 : Nat} {ad1 adl : Addr} {k : Nat} {x : Int} {Ar : Option Addr} {nr cr : Nat} {w' : World} (h3 : W.heap[g3]? = some (.cells #[.slice A0 a.length c0, .slice (some ad1) b.length c1, .slice A2 c.length c2] 25 (0, 0)))
  (h1 : W.cell? (adl.add k) = some (.int .i64 x)) (h2 : W.cell? (ad1.add x.toNat) = some (.slice Ar nr cr)) (hb : Below W.heap.size W w') :
  w'.cell? ⟨g3, 1, none⟩ = some (.slice (some ad1) b.length c1) ∧ w'.cell? (adl.add k) = some (.int .i64 x) ∧ w'.cell? (ad1.add x.toNat) = some (.slice Ar nr cr) :=
 ⟨(blk_cell (blk_below h3 hb) 1).trans rfl, pw_cell_below hb h1, pw_cell_below hb h2⟩
set_option maxHeartbeats 8000000 in
set_option maxRecDepth 100000 in
theorem chosen_zero (h : CaseAt w A0 c0 a A1 c1 b A2 c2 c) (hc : CaseIs a b c) (base : Nat) (v : Value) (l : List Int) (hR : Kd.R (Kd.int .i64) 3 w base (fun _ => True) v l) (hl : l.length ≤ 12) (hm : ∀ x ∈ l, 0 ≤ x ∧ x < (b.length : Int)) :
  Calls Tryd.prog 57 #[.agg #[.slice A0 a.length c0, .slice A1 b.length c1, .slice A2 c.length c2], v, .int .i64 0] w (ChPost base (chosenB a b 0 l) w) := by
 have H := Aside0.mk h
 have HC := Aside0.mk hc
 have HR := Aside0.mk hR
 have HM := Aside0.mk hm
 have HB := Aside0.mk (Below.refl w.heap.size w)
 obtain ⟨AL, cl, rfl⟩ := Kd.R_slice hR
 have HCL := Aside0.mk (Kd.R_reads' hR)
 have HL := Aside0.mk hl
 obtain ⟨r, hr⟩ : ∃ r, r = chosenB a b 0 l := ⟨_, rfl⟩
 have HRR := Aside0.mk hr
 rw [← hr]
 clear h hc hR hm hr
 go_enter Tryd.func57, Tryd.ntmps57
 go_wp2
 go_loopg [9] l.length (fun kq v9 w' => ∃ (k : Nat) (u : Value), v9 = .int .i64 k ∧ Aside0 (kq + k = l.length) ∧ Aside0 (Below w.heap.size w w') ∧ Aside0 (w'.heap[w.heap.size]? = some (.cells #[.slice A0 a.length c0, .slice A1 b.length c1, .slice A2 c.length c2] 25 (0, 0))) ∧ Aside0 (w'.heap[w.heap.size + 1]? = some (.cells #[.slice A0 a.length c0, u, .slice none 0 0] 25 (0, 0))) ∧ Aside0 (Kd.R (frow w) 22 w' w.heap.size (fun _ => True) u (rowsOf b (l.take k))))
 case atStart =>
  refine ⟨0, .slice none 0 0, rfl, ⟨by omega⟩, ⟨below_alloc (below_alloc (Below.refl _ _) _) _⟩, ⟨blk_alloc (blk_new w _) _⟩, ⟨?_⟩, ⟨Kd.R_nil _ _ _ _ _⟩⟩
  have := blk_new (w.alloc (.cells #[.slice A0 a.length c0, .slice A1 b.length c1, .slice A2 c.length c2] 25)) (.cells #[.slice A0 a.length c0, .slice none 0 0, .slice none 0 0] 25)
  rwa [size_alloc'] at this
 case round =>
  obtain ⟨k, u, rfl, HKQ, HBW, HG3, HG8, HRT⟩ := hrel
  obtain ⟨k1, rfl⟩ : ∃ k1, k1 = gk := ⟨_, rfl⟩
  obtain ⟨AT, ct, rfl⟩ := Kd.R_slice HRT.out
  obtain ⟨rs, hrs⟩ : ∃ rs, rs = rowsOf b (l.take k) := ⟨_, rfl⟩
  rw [← hrs] at HRT HG8
  have HRS := Aside0.mk hrs
  clear hrs
  by_cases hk : k < l.length
  ·obtain ⟨adl, el, hxl⟩ := Kd.at_int (Kd.C_below HCL.out.2.2 HBW.out) (k : Int) (by omega) (by omega)
   obtain ⟨x, hx⟩ : ∃ x, rd l (k : Int) = x := ⟨_, rfl⟩
   have hxm : x ∈ l := by rw [← hx]; simp only [rd, Int.toNat_natCast, List.getD_eq_getElem?_getD, List.getElem?_eq_getElem hk, Option.getD_some]; exact List.getElem_mem hk
   obtain ⟨hx0, hx1⟩ := HM.out x hxm
   obtain ⟨ad1, cs1, e1, hcs1, hK1, hcc1⟩ := ReadsRow.get_ H.out.r1 [] x hx0 (by omega)
   obtain ⟨Ar, cr, rfl, hcr, hCr⟩ := hK1
   obtain ⟨row, hrow⟩ : ∃ row, b.getD x.toNat [] = row := ⟨_, rfl⟩
   rw [hrow] at hcr hCr hcc1
   have hcell1 := pw_cell_below HBW.out (hcc1 0 _ rfl)
   simp only [Nat.mul_one, Nat.add_zero, Kd.slice] at hcell1
   simp only [Int.toNat_natCast] at hxl
   rw [hx] at hxl
   have HROW := Aside0.mk (show rowsOf b (l.take (k + 1)) = rs ++ [row] by
    rw [HRS.out, List.take_succ_eq_append_getElem hk]
    unfold rowsOf
    rw [List.map_append, List.map_cons, List.map_nil, show l[k] = x by rw [← hx]; simp [rd, List.getD_eq_getElem?_getD, List.getElem?_eq_getElem hk]]
    unfold rd_L1
    rw [hrow])
   have HRSL := Aside0.mk (show rs.length ≤ 12 by rw [HRS.out]; unfold rowsOf; rw [List.length_map, List.length_take]; omega)
   have HM1 := Aside0.mk (show (frow w).M wr w.heap.size (fun _ => False) row [.slice Ar row.length cr] from ⟨Ar, cr, rfl, hcr, hCr⟩)
   clear hxm hcs1 hcc1 hrow hx
   cases el
   cases e1
   have hcz8 : wr.cell? ⟨w.heap.size + 1, 1, none⟩ = some (.slice AT rs.length ct) := (blk_cell HG8.out 1).trans rfl
   have hmb := Kd.C_max H.out.r1
   go_upto_region 8 with (fail)
   clear hcz8
   have HXL := Aside0.mk hxl
   have HCL1 := Aside0.mk hcell1
   clear hxl hcell1
   refine start_ (n := 13) (S := fun w' => w'.cell? ⟨w.heap.size, 1, none⟩ = some (.slice (some ad1) b.length c1) ∧ w'.cell? (adl.add k) = some (.int .i64 x) ∧ w'.cell? (ad1.add x.toNat) = some (.slice Ar row.length cr)) (ds := [10, 12]) #[false, false, false, false, false, false, false, false, false, false, false, false, false] (by kernel_rfl) rfl rfl (chS HG3.out HXL.out HCL1.out (below_drew (Below.refl _ _))) (fun hHeld => ?_)
   refine pure_ (i := 0) (N := (some 29)) (v := ?_) (a' := ?_) #[true, false, false, false, false, false, false, false, false, false, false, false, false] rfl rfl (by kernel_rfl) (fun _ _ _ h => h) (Or.inl ⟨by rfl, ?_⟩) ?_ ?_
   rotate_left
   ·intro w'
    go_simp
    with_reducible rfl
   rotate_left
   ·simp only [Act.put, List.setIfInBounds_toArray, List.set_cons_zero, List.set_cons_succ, i64_w, i32_w]
    rfl
   refine pure_ (i := 1) (N := (some 30)) (v := ?_) (a' := ?_) #[true, true, false, false, false, false, false, false, false, false, false, false, false] rfl rfl (by kernel_rfl) (fun _ _ _ h => h) (Or.inl ⟨by rfl, ?_⟩) ?_ ?_
   rotate_left
   ·intro w'
    go_simp
    with_reducible rfl
   rotate_left
   ·simp only [Act.put, List.setIfInBounds_toArray, List.set_cons_zero, List.set_cons_succ, i64_w, i32_w]
    rfl
   refine take_ (i := 2) (N := (some 31)) (v := ?_) (a' := ?_) #[true, true, true, false, false, false, false, false, false, false, false, false, false] rfl rfl (by kernel_rfl) (fun _ _ _ h => h) (Or.inl ⟨by rfl, ?_⟩) hHeld ?_ ?_
   rotate_left
   ·rintro w' ⟨s0, s1, s2⟩
    go_simp
    with_reducible rfl
   rotate_left
   ·simp only [Act.put, List.setIfInBounds_toArray, List.set_cons_zero, List.set_cons_succ, i64_w, i32_w]
    rfl
   refine pure_ (i := 3) (N := (some 32)) (v := ?_) (a' := ?_) #[true, true, true, true, false, false, false, false, false, false, false, false, false] rfl rfl (by kernel_rfl) (fun _ _ _ h => h) (Or.inl ⟨by rfl, ?_⟩) ?_ ?_
   rotate_left
   ·intro w'
    go_simp
    with_reducible rfl
   rotate_left
   ·simp only [Act.put, List.setIfInBounds_toArray, List.set_cons_zero, List.set_cons_succ, i64_w, i32_w]
    rfl
   refine pure_ (i := 4) (N := (some 33)) (v := ?_) (a' := ?_) #[true, true, true, true, true, false, false, false, false, false, false, false, false] rfl rfl (by kernel_rfl) (fun _ _ _ h => h) (Or.inl ⟨by rfl, ?_⟩) ?_ ?_
   rotate_left
   ·intro w'
    go_simp
    with_reducible rfl
   rotate_left
   ·simp only [Act.put, List.setIfInBounds_toArray, List.set_cons_zero, List.set_cons_succ, i64_w, i32_w]
    rfl
   refine pure_ (i := 5) (N := (some 34)) (v := ?_) (a' := ?_) #[true, true, true, true, true, true, false, false, false, false, false, false, false] rfl rfl (by kernel_rfl) (fun _ _ _ h => h) (Or.inl ⟨by rfl, ?_⟩) ?_ ?_
   rotate_left
   ·intro w'
    go_simp
    with_reducible rfl
   rotate_left
   ·simp only [Act.put, List.setIfInBounds_toArray, List.set_cons_zero, List.set_cons_succ, i64_w, i32_w]
    rfl
   refine take_ (i := 6) (N := (some 35)) (v := ?_) (a' := ?_) #[true, true, true, true, true, true, true, false, false, false, false, false, false] rfl rfl (by kernel_rfl) (fun _ _ _ h => h) (Or.inl ⟨by rfl, ?_⟩) hHeld ?_ ?_
   rotate_left
   ·rintro w' ⟨s0, s1, s2⟩
    go_simp
    with_reducible rfl
   rotate_left
   ·simp only [Act.put, List.setIfInBounds_toArray, List.set_cons_zero, List.set_cons_succ, i64_w, i32_w]
    rfl
   refine pure_ (i := 7) (N := (some 36)) (v := ?_) (a' := ?_) #[true, true, true, true, true, true, true, true, false, false, false, false, false] rfl rfl (by kernel_rfl) (fun _ _ _ h => h) (Or.inl ⟨by rfl, ?_⟩) ?_ ?_
   rotate_left
   ·intro w'
    go_simp
    with_reducible rfl
   rotate_left
   ·simp only [Act.put, List.setIfInBounds_toArray, List.set_cons_zero, List.set_cons_succ, i64_w, i32_w]
    rfl
   refine take_ (i := 8) (N := (some 37)) (v := ?_) (a' := ?_) #[true, true, true, true, true, true, true, true, true, false, false, false, false] rfl rfl (by kernel_rfl) (fun _ _ _ h => h) (Or.inl ⟨by rfl, ?_⟩) hHeld ?_ ?_
   rotate_left
   ·rintro w' ⟨s0, s1, s2⟩
    go_simp
    with_reducible rfl
   rotate_left
   ·simp only [Act.put, List.setIfInBounds_toArray, List.set_cons_zero, List.set_cons_succ, i64_w, i32_w]
    rfl
   refine one_ (i := 9) (N := (some 38)) #[true, true, true, true, true, true, true, true, true, true, false, false, false] rfl rfl (by kernel_rfl) (by decide) (fun K hK => ?_)
   refine value_ (w1 := ?_) (v := ?_) (by rfl) rfl ?_ ?_
   rotate_left 2
   ·go_simp
    constructor
    ·rfl
    ·rfl
   refine hK.out _ _ (chS HG3.out HXL.out HCL1.out (below_alloc (below_drew (Below.refl _ _)) _)) (fun hHeld => ?_)
   clear hK K
   refine norm_ (a' := ?_) ?_ ?_
   rotate_left
   ·show Act.put _ (some 38) _ = _
    simp only [Act.put, List.setIfInBounds_toArray, List.set_cons_zero, List.set_cons_succ, i64_w, i32_w]
    rfl
   refine last_ (i := 10) (N := (some 39)) #[true, true, true, true, true, true, true, true, true, true, true, false, false] rfl rfl (by kernel_rfl) (by decide) (fun K hK => ?_)
   refine Kd.R_append_step (frow w) (w0 := w) w.heap.size (by rfl) (.tmp 29) (.tmp 38) 23 22 (.slice none 0 0) 24 rfl Tryd.underlying23 info22t rfl Nat.one_pos (by omega) (.slice AT rs.length ct) rs row [.slice Ar row.length cr] (fun _ => True) (fun _ => False) rfl rfl (show (frow w).M wr.drew w.heap.size (fun _ => False) row [.slice Ar row.length cr] from HM1.out) (fun _ hk => hk.elim) (fun _ _ => trivial) (Kd.R_drew HRT.out) (below_drew HBW.out) (by have := HBW.out.size; exact this) (by have := HRSL.out; omega) ?_
   intro v1 w1 ho hb hg hat
   obtain ⟨AT1, ct1, rfl⟩ := Kd.R_slice ho
   have g3' := blk_grown (blk_drew HG3.out) hg (Kd.R_ne (Kd.R_drew HRT.out) (blk_drew HG3.out) (by decide))
   have g8' := blk_grown (blk_drew HG8.out) hg (Kd.R_ne (Kd.R_drew HRT.out) (blk_drew HG8.out) (by decide))
   have HO := Aside0.mk ho
   have HB1 := Aside0.mk hb
   have HG31 := Aside0.mk g3'
   have HG81 := Aside0.mk g8'
   have hlen : (rs ++ [row]).length = rs.length + 1 := by simp
   rw [hlen]
   have hcz1 : w1.cell? ⟨w.heap.size + 1, 1, none⟩ = some (.slice AT rs.length ct) := (blk_cell g8' 1).trans rfl
   have hfz1 := blk_frozen g8' 1
   clear ho hb hg hat g3' g8'
   refine hK.out _ _ ?_
   clear hK K
   refine norm_ (a' := ?_) ?_ ?_
   rotate_left
   ·show Act.put _ (some 39) _ = _
    simp only [Act.put, List.setIfInBounds_toArray, List.set_cons_zero, List.set_cons_succ, i64_w, i32_w]
    rfl
   refine pure_ (i := 11) (N := (some 40)) (v := ?_) (a' := ?_) #[true, true, true, true, true, true, true, true, true, true, true, true, false] rfl rfl (by kernel_rfl) (fun _ _ _ h => h) (Or.inl ⟨by rfl, ?_⟩) ?_ ?_
   rotate_left
   ·intro w'
    go_simp
    with_reducible rfl
   rotate_left
   ·simp only [Act.put, List.setIfInBounds_toArray, List.set_cons_zero, List.set_cons_succ, i64_w, i32_w]
    rfl
   refine last_ (i := 12) (N := none) #[true, true, true, true, true, true, true, true, true, true, true, true, true] rfl rfl (by kernel_rfl) (by decide) (fun K hK => ?_)
   refine skip_ (w1 := ?_) (by rfl) rfl ?_ ?_
   rotate_left
   ·go_simp
    rfl
   refine hK.out _ _ ?_
   clear hK K
   refine done_ (by kernel_rfl) ?_
   go_wp2
   go_roundg (k1 - 1)
   case measure => have := HKQ.out; omega
   case rel =>
    refine ⟨k + 1, .slice AT1 (rs.length + 1) ct1, by go_num, ⟨by have := HKQ.out; omega⟩, ⟨HB1.out.setCell (by show w.heap.size ≤ w.heap.size + 1; omega) _⟩, ⟨blk_far HG31.out (by show w.heap.size ≠ w.heap.size + 1; omega) _⟩, ⟨(blk_set HG81.out 1 _).trans rfl⟩, ⟨?_⟩⟩
    rw [HROW.out]
    have := Kd.R_set HO.out HG81.out (fun q hq => by rw [List.mem_singleton.1 hq]; decide) 1 (.slice AT1 (rs.length + 1) ct1)
    rw [hlen] at this
    exact this
  ·obtain rfl : k = l.length := by have := HKQ.out; omega
   have hrs : rs = rowsOf b l := by rw [HRS.out, List.take_length]
   have hcz0 : wr.cell? ⟨w.heap.size + 1, 0, none⟩ = some (.slice A0 a.length c0) := (blk_cell HG8.out 0).trans rfl
   have hcz1 : wr.cell? ⟨w.heap.size + 1, 1, none⟩ = some (.slice AT rs.length ct) := (blk_cell HG8.out 1).trans rfl
   have hcz2 : wr.cell? ⟨w.heap.size + 1, 2, none⟩ = some (.slice none 0 0) := (blk_cell HG8.out 2).trans rfl
   obtain ⟨kk, hkk⟩ := rows_alike HC.out HL.out HM.out
   rw [← hrs] at hkk
   have HKK := Aside0.mk hkk
   have HRT2 := Aside0.mk (Kd.R_reads' HRT.out)
   have HQ := Aside0.mk (show r = (l, decide (alikeL (onesOf rs) a.length = [])) by rw [HRR.out, hrs]; rfl)
   obtain ⟨n, hn⟩ : ∃ n, n = (alikeL (onesOf rs) a.length).length := ⟨_, rfl⟩
   have HN := Aside0.mk hn
   clear hrs hkk hk hn
   go_wp2_with (go_at_call 18; go_loud (refine (tickingref07_Alike.calls kk A0 c0 a AT ct rs none 0 [] _ wr (Kd.C_below H.out.r0 HBW.out) H.out.n0 (frow_C HRT2.out.2.2 HBW.out) HRT2.out.2.1 (Kd.C_nil _ _) (Nat.le_refl _) HKK.out).mono ?_); rintro e w7 ⟨v7, rfl, hr7, hb⟩; obtain ⟨A7, c7, rfl⟩ := Kd.R_slice hr7; rw [← HN.out]; have HB7 := Aside0.mk hb; clear hb hr7)
   go_ret2
   refine ⟨.slice AL l.length cl, ?_, ?_, below_step HBW.out HB7.out⟩
   ·rw [HQ.out]
    show _ = Ending.returned (.tuple #[_, .bool (decide (alikeL (onesOf rs) a.length = []))])
    have hb : decide (alikeL (onesOf rs) a.length = []) = decide (n = 0) := by rw [HN.out]; exact decide_eq_decide.2 List.length_eq_zero_iff.symm
    rw [hb]
    show Ending.returned (.tuple #[.slice AL l.length cl, .bool ((n : Int) == 0)]) = _
    rw [show ((n : Int) == 0) = decide (n = 0) from by rw [Bool.eq_iff_iff]; simp]
   ·rw [HQ.out]
    exact Kd.R_below HR.out (below_step HBW.out HB7.out)
end
end Go.Proofs.YtekmiepdodaidaaDoor.X
end

section
/- tickingref07.chosen, by hand: the search, and the whole. -/
set_option linter.unusedVariables false
set_option linter.unusedSimpArgs false
namespace Go.Proofs.YtekmiepdodaidaaDoor.X
open Go.RowKit Go.Proofs.YtekmiepdodaidaaDoorW.PrintWords Go.Proofs.YtekmiepdodaidaaDoorW.PrintLast Go.Proofs.YtekmiepdodaidaaDoorW.PrintMore

theorem chLoop_step (f : List Int → List Int × Bool) (l : List Int) (t T : Nat) (h : t < T) : chLoop f l t (T - t) = if (f (l ++ [(t : Int)])).2 = true then ((f (l ++ [(t : Int)])).1, true) else chLoop f l (t + 1) (T - (t + 1)) := by
 rw [show T - t = (T - (t + 1)) + 1 by omega]; rfl
theorem chLoop_end (f : List Int → List Int × Bool) (l : List Int) (T : Nat) : chLoop f l T (T - T) = ([], false) := by rw [Nat.sub_self]; rfl
theorem fromB_le {l : List Int} {n : Nat} (hm : ∀ x ∈ l, 0 ≤ x ∧ x < (n : Int)) : fromB l ≤ n := by
 unfold fromB
 split
 ·exact Nat.zero_le _
 ·rename_i h
  have hk : l.length - 1 < l.length := by omega
  have : rd l ((l.length : Int) - 1) = l[l.length - 1] := by simp [rd, show ((l.length : Int) - 1).toNat = l.length - 1 by omega, List.getD_eq_getElem?_getD, List.getElem?_eq_getElem hk]
  rw [this]
  have := hm _ (List.getElem_mem hk)
  omega
theorem info3d : (Tryd.prog.info? 3).map (fun i => (i.zero, i.size, i.bytes)) = some (some (.int .i64 0), 1, 8) := by kernel_rfl
section
variable {A0 : Option Addr} {c0 : Nat} {a : List Int} {A1 : Option Addr} {c1 : Nat} {b : List (List Int)} {A2 : Option Addr} {c2 : Nat} {c : List Int} {w : World}
theorem boxS {W : World} {g : Nat} (h : W.heap[g]? = some (.cells #[.slice A0 a.length c0, .slice A1 b.length c1, .slice A2 c.length c2] 25 (0, 0))) : W.cell? ⟨g, 0, none⟩ = some (.slice A0 a.length c0) ∧ W.cell? ⟨g, 1, none⟩ = some (.slice A1 b.length c1) ∧ W.cell? ⟨g, 2, none⟩ = some (.slice A2 c.length c2) :=
 ⟨(blk_cell h 0).trans rfl, (blk_cell h 1).trans rfl, (blk_cell h 2).trans rfl⟩
set_option maxHeartbeats 8000000 in
set_option maxRecDepth 100000 in
theorem chosen_step (h : CaseAt w A0 c0 a A1 c1 b A2 c2 c) (hc : CaseIs a b c) (m : Nat) (base : Nat) (v : Value) (l : List Int) (hR : Kd.R (Kd.int .i64) 3 w base (fun _ => True) v l) (hbase : base ≤ w.heap.size) (hl : l.length + (m + 1) ≤ 12) (hm : ∀ x ∈ l, 0 ≤ x ∧ x < (b.length : Int))
  (ih : ∀ (w : World), CaseAt w A0 c0 a A1 c1 b A2 c2 c → ∀ (base : Nat) (v : Value) (l : List Int), Kd.R (Kd.int .i64) 3 w base (fun _ => True) v l → base ≤ w.heap.size → l.length + m ≤ 12 → (∀ x ∈ l, 0 ≤ x ∧ x < (b.length : Int)) → Calls Tryd.prog 57 #[.agg #[.slice A0 a.length c0, .slice A1 b.length c1, .slice A2 c.length c2], v, .int .i64 m] w (ChPost base (chosenB a b m l) w)) :
  Calls Tryd.prog 57 #[.agg #[.slice A0 a.length c0, .slice A1 b.length c1, .slice A2 c.length c2], v, .int .i64 ((m + 1 : Nat) : Int)] w (ChPost base (chosenB a b (m + 1) l) w) := by
 have H := Aside0.mk h
 have HC := Aside0.mk hc
 have HR := Aside0.mk hR
 have HM := Aside0.mk hm
 have HBASE := Aside0.mk hbase
 have IH := Aside0.mk ih
 have HB := Aside0.mk (Below.refl w.heap.size w)
 obtain ⟨AL, cl, rfl⟩ := Kd.R_slice hR
 have HCL := Aside0.mk (Kd.R_reads' hR)
 have HL := Aside0.mk hl
 obtain ⟨r, hr⟩ : ∃ r, r = chosenB a b (m + 1) l := ⟨_, rfl⟩
 have HRR := Aside0.mk (show r = chLoop (chosenB a b m) l (fromB l) (b.length - fromB l) from hr)
 rw [← hr]
 have hz : (((m + 1 : Nat) : Int) == 0) = false := by rw [beq_eq_false_iff_ne]; omega
 have HFR := Aside0.mk (fromB_le hm)
 obtain ⟨fr, hfr⟩ : ∃ fr, fr = fromB l := ⟨_, rfl⟩
 rw [← hfr] at HFR HRR
 have hb12 := hc.b12
 have hm12 : m ≤ 12 := by omega
 have hc1 := h.n1
 have HLN := Aside0.mk (show l.length ≤ 12 by omega)
 have HFRD := Aside0.mk hfr
 have hl12 : l.length ≤ 12 := by omega
 clear h hc hR hm hr hbase ih hl hfr
 by_cases hl0 : l.length = 0
 case' pos =>
  have hd : decide (0 < l.length) = false := by simp [hl0]
  have hd2 : decide ((0 : Int) < (l.length : Int)) = false := by simp [hl0]
  have HFZ := Aside0.mk (show (0 : Int) = fr by rw [HFRD.out]; unfold fromB; rw [if_pos hl0]; rfl)
  clear hl0
  go_enter Tryd.func57, Tryd.ntmps57
  go_wp2
  rw [HFZ.out]
 case' neg =>
  have hd : decide (0 < l.length) = true := decide_eq_true (by omega)
  have hd2 : decide ((0 : Int) < (l.length : Int)) = true := decide_eq_true (by omega)
  obtain ⟨adl, el, hxl⟩ := Kd.at_int HCL.out.2.2 ((l.length : Int) - 1) (by omega) (by omega)
  obtain ⟨x, hx⟩ : ∃ x, rd l ((l.length : Int) - 1) = x := ⟨_, rfl⟩
  have hxm : x ∈ l := by rw [← hx]; simp only [rd]; rw [List.getD_eq_getElem?_getD, List.getElem?_eq_getElem (by omega)]; exact List.getElem_mem _
  obtain ⟨hx0, hx1⟩ := HM.out x hxm
  have HFZ := Aside0.mk (show x + 1 = (fr : Int) by rw [HFRD.out]; unfold fromB; rw [if_neg hl0, hx]; omega)
  rw [hx, show ((l.length : Int) - 1).toNat = l.length - 1 from by omega] at hxl
  clear hx hxm
  cases el
  replace hxl := fun o => pw_cell_below (below_alloc (Below.refl _ _) o) hxl
  have hla : (0 : Int) ≤ (l.length : Int) - 1 := by omega
  clear hl0
  go_enter Tryd.func57, Tryd.ntmps57
  go_wp2
  rw [HFZ.out]
  clear hxl
 all_goals
  clear hd hd2
  go_loopg [12] (b.length - fr) (fun kq v12 w' => ∃ t : Nat, v12 = .int .i64 t ∧ Aside0 (kq + t = b.length) ∧ Aside0 (Below w.heap.size w w') ∧ Aside0 (w'.heap[w.heap.size]? = some (.cells #[.slice A0 a.length c0, .slice A1 b.length c1, .slice A2 c.length c2] 25 (0, 0))) ∧ Aside0 (r = chLoop (chosenB a b m) l t (b.length - t)))
  case atStart => exact ⟨fr, rfl, ⟨by have := HFR.out; omega⟩, ⟨below_alloc (Below.refl _ _) _⟩, ⟨blk_new w _⟩, HRR⟩
  case round =>
   obtain ⟨t, rfl, HKQ, HBW, HG3, HLP⟩ := hrel
   obtain ⟨k1, rfl⟩ : ∃ k1, k1 = gk := ⟨_, rfl⟩
   have hcz1 : wr.cell? ⟨w.heap.size, 1, none⟩ = some (.slice A1 b.length c1) := (blk_cell HG3.out 1).trans rfl
   by_cases ht : t < b.length
   ·have HN := Aside0.mk (show r = if (chosenB a b m (l ++ [(t : Int)])).2 = true then ((chosenB a b m (l ++ [(t : Int)])).1, true) else chLoop (chosenB a b m) l (t + 1) (b.length - (t + 1)) by rw [HLP.out, chLoop_step _ _ _ _ ht])
    go_upto_region 18 with (at_builtin; go_loud (refine Kd.R_append_rows (Kd.int .i64) (w0 := wr) wr.heap.size rfl (.tmp 64) (.tmp 65) 22 3 (.int .i64 0) 8 rfl Tryd.underlying22 info3d rfl (by decide) (by omega) (.slice none 0 0) ([] : List Int) l _ _ _ (fun _ => True) (fun _ => False) rfl rfl ?aO ?aR (fun _ _ h => h) (fun _ h => h.elim) ?aF ?aB ?aS ?aL ?_); go_loud (case aO => exact Kd.R_nil _ _ _ _ _); go_loud (case aR => exact Kd.C_below HCL.out.2.2 HBW.out); go_loud (case aF => exact fun _ _ => trivial); go_loud (case aB => exact Below.refl _ _); go_loud (case aS => exact Nat.le_refl _); go_loud (case aL => have := HLN.out; simp; omega); intro v9 w9 ho hb hg hat; rw [List.nil_append] at ho; obtain ⟨A9, c9, rfl⟩ := Kd.R_slice ho; have HO := Aside0.mk ho; have HB9 := Aside0.mk hb; clear ho hb hg hat)
    clear hcz1
    have HG9 := Aside0.mk (blk_below HG3.out HB9.out)
    have HBN := Aside0.mk (show Below w.heap.size w w9 from below_step HBW.out HB9.out)
    have HMT := Aside0.mk (show ∀ x ∈ l ++ [(t : Int)], 0 ≤ x ∧ x < (b.length : Int) by intro x hx; rcases List.mem_append.1 hx with h | h; exact HM.out x h; rw [List.mem_singleton.1 h]; omega)
    have hlen : (l ++ [(t : Int)]).length = l.length + 1 := by simp
    have HLL := Aside0.mk hlen
    clear hlen
    refine start_ (n := 13) (S := fun w' => w'.cell? ⟨w.heap.size, 0, none⟩ = some (.slice A0 a.length c0) ∧ w'.cell? ⟨w.heap.size, 1, none⟩ = some (.slice A1 b.length c1) ∧ w'.cell? ⟨w.heap.size, 2, none⟩ = some (.slice A2 c.length c2)) (ds := []) #[false, false, false, false, false, false, false, false, false, false, false, false, false] (by kernel_rfl) rfl rfl (boxS (blk_drew HG9.out)) (fun hHeld => ?_)
    refine take_ (i := 0) (N := (some 68)) (v := ?_) (a' := ?_) #[true, false, false, false, false, false, false, false, false, false, false, false, false] rfl rfl (by kernel_rfl) (fun _ _ _ h => h) (Or.inl ⟨by rfl, ?_⟩) hHeld ?_ ?_
    rotate_left
    ·rintro w' ⟨s0, s1, s2⟩
     go_simp
     with_reducible rfl
    rotate_left
    ·simp only [Act.put, List.setIfInBounds_toArray, List.set_cons_zero, List.set_cons_succ, i64_w, i32_w]
     rfl
    refine pure_ (i := 1) (N := (some 69)) (v := ?_) (a' := ?_) #[true, true, false, false, false, false, false, false, false, false, false, false, false] rfl rfl (by kernel_rfl) (fun _ _ _ h => h) (Or.inl ⟨by rfl, ?_⟩) ?_ ?_
    rotate_left
    ·intro w'
     go_simp
     with_reducible rfl
    rotate_left
    ·simp only [Act.put, List.setIfInBounds_toArray, List.set_cons_zero, List.set_cons_succ, i64_w, i32_w]
     rfl
    refine pure_ (i := 2) (N := (some 70)) (v := ?_) (a' := ?_) #[true, true, true, false, false, false, false, false, false, false, false, false, false] rfl rfl (by kernel_rfl) (fun _ _ _ h => h) (Or.inl ⟨by rfl, ?_⟩) ?_ ?_
    rotate_left
    ·intro w'
     go_simp
     with_reducible rfl
    rotate_left
    ·simp only [Act.put, List.setIfInBounds_toArray, List.set_cons_zero, List.set_cons_succ, i64_w, i32_w]
     rfl
    refine pure_ (i := 5) (N := (some 73)) (v := ?_) (a' := ?_) #[true, true, true, false, false, true, false, false, false, false, false, false, false] rfl rfl (by kernel_rfl) (fun _ _ _ h => h) (Or.inl ⟨by rfl, ?_⟩) ?_ ?_
    rotate_left
    ·intro w'
     go_simp
     with_reducible rfl
    rotate_left
    ·simp only [Act.put, List.setIfInBounds_toArray, List.set_cons_zero, List.set_cons_succ, i64_w, i32_w]
     rfl
    refine pure_ (i := 6) (N := (some 74)) (v := ?_) (a' := ?_) #[true, true, true, false, false, true, true, false, false, false, false, false, false] rfl rfl (by kernel_rfl) (fun _ _ _ h => h) (Or.inl ⟨by rfl, ?_⟩) ?_ ?_
    rotate_left
    ·intro w'
     go_simp
     with_reducible rfl
    rotate_left
    ·simp only [Act.put, List.setIfInBounds_toArray, List.set_cons_zero, List.set_cons_succ, i64_w, i32_w]
     rfl
    refine one_ (i := 3) (N := (some 71)) #[true, true, true, true, false, true, true, false, false, false, false, false, false] rfl rfl (by kernel_rfl) (by decide) (fun K hK => ?_)
    refine value_ (w1 := ?_) (v := ?_) (by rfl) rfl ?_ ?_
    rotate_left 2
    ·go_simp
     constructor
     ·rfl
     ·rfl
    refine hK.out _ _ (boxS (blk_alloc (blk_drew HG9.out) _)) (fun hHeld => ?_)
    clear hK K
    refine norm_ (a' := ?_) ?_ ?_
    rotate_left
    ·show Act.put _ (some 71) _ = _
     simp only [Act.put, List.setIfInBounds_toArray, List.set_cons_zero, List.set_cons_succ, i64_w, i32_w]
     rfl
    refine one_ (i := 4) (N := (some 72)) #[true, true, true, true, true, true, true, false, false, false, false, false, false] rfl rfl (by kernel_rfl) (by decide) (fun K hK => ?_)
    refine Kd.R_append_step (Kd.int .i64) (w0 := wr) wr.heap.size (by rfl) (.tmp 69) (.tmp 71) 22 3 (.int .i64 0) 8 rfl Tryd.underlying22 info3d rfl (by decide) (by omega) (.slice A9 l.length c9) l (t : Int) [.int .i64 (t : Int)] (fun _ => True) (fun _ => False) rfl rfl rfl (fun _ hk => hk.elim) (fun _ _ => trivial) (Kd.R_drew HO.out) (below_drew HB9.out) (by have := HB9.out.size; exact this) (by have := HLN.out; omega) ?_
    intro v10 w10 ho hb hg hat
    obtain ⟨A10, c10, rfl⟩ := Kd.R_slice ho
    have HO10 := Aside0.mk ho
    have HB10 := Aside0.mk hb
    have HG10 := Aside0.mk (blk_grown (blk_drew HG9.out) hg (Kd.R_ne (Kd.R_drew HO.out) (blk_drew HG9.out) (by decide)))
    clear ho hb hg hat
    refine hK.out _ _ (boxS HG10.out) (fun hHeld => ?_)
    clear hK K
    refine norm_ (a' := ?_) ?_ ?_
    rotate_left
    ·show Act.put _ (some 72) _ = _
     simp only [Act.put, List.setIfInBounds_toArray, List.set_cons_zero, List.set_cons_succ, i64_w, i32_w]
     rfl
    refine one_ (i := 7) (N := (some 75)) #[true, true, true, true, true, true, true, true, false, false, false, false, false] rfl rfl (by kernel_rfl) (by decide) (fun K hK => ?_)
    refine goes_ Tryd.func57 (by kernel_rfl) rfl #[.agg #[.slice A0 a.length c0, .slice A1 b.length c1, .slice A2 c.length c2], .slice A10 (l ++ [(t : Int)]).length c10, .int .i64 (wrap64 (m : Int))] (by rfl) rfl rfl (by (try simp only [List.map_toArray, List.map_cons, List.map_nil]); first | done | rfl) ?_
    rw [show wrap64 (m : Int) = m from by unfold wrap64; omega]
    refine (IH.out _ (H.out.below (HBW.out.trans (HB10.out.mono HBW.out.size))) base _ (l ++ [(t : Int)]) (Kd.R_lower HO10.out (Nat.le_trans HBASE.out HBW.out.size)) (Nat.le_trans HBASE.out (Nat.le_trans HBW.out.size HB10.out.size)) (by have h1 := HLL.out; have h2 := HL.out; omega) HMT.out).mono ?_
    rintro e w11 ⟨v11, rfl, hr11, hb11⟩
    have HR11 := Aside0.mk hr11
    have HG11 := Aside0.mk (blk_below HG10.out hb11)
    have HB11 := Aside0.mk (below_step (HBW.out.trans (HB10.out.mono HBW.out.size)) hb11)
    clear hr11 hb11
    obtain ⟨q, hq⟩ : ∃ q, q = chosenB a b m (l ++ [(t : Int)]) := ⟨_, rfl⟩
    rw [← hq] at HR11 HN ⊢
    obtain ⟨q1, q2⟩ := q
    have HR12 := Aside0.mk (show Kd.R (Kd.int .i64) 3 w11 base (fun _ => True) v11 q1 from HR11.out)
    have HNN := Aside0.mk (show r = if q2 = true then (q1, true) else chLoop (chosenB a b m) l (t + 1) (b.length - (t + 1)) from HN.out)
    clear hq HN HR11
    dsimp only
    refine ⟨_, rfl, ?_⟩
    refine hK.out _ _ (boxS HG11.out) (fun hHeld => ?_)
    clear hK K
    refine norm_ (a' := ?_) ?_ ?_
    rotate_left
    ·show Act.put _ (some 75) _ = _
     simp only [Act.put, List.setIfInBounds_toArray, List.set_cons_zero, List.set_cons_succ, i64_w, i32_w]
     rfl
    refine pure_ (i := 8) (N := (some 67)) (v := ?_) (a' := ?_) #[true, true, true, true, true, true, true, true, true, false, false, false, false] rfl rfl (by kernel_rfl) (fun _ _ _ h => h) (Or.inl ⟨by rfl, ?_⟩) ?_ ?_
    rotate_left
    ·intro w'
     go_simp
     with_reducible rfl
    rotate_left
    ·simp only [Act.put, List.setIfInBounds_toArray, List.set_cons_zero, List.set_cons_succ, i64_w, i32_w]
     rfl
    refine pure_ (i := 9) (N := (some 76)) (v := ?_) (a' := ?_) #[true, true, true, true, true, true, true, true, true, true, false, false, false] rfl rfl (by kernel_rfl) (fun _ _ _ h => h) (Or.inl ⟨by rfl, ?_⟩) ?_ ?_
    rotate_left
    ·intro w'
     go_simp
     with_reducible rfl
    rotate_left
    ·simp only [Act.put, List.setIfInBounds_toArray, List.set_cons_zero, List.set_cons_succ, i64_w, i32_w]
     rfl
    refine pure_ (i := 10) (N := (some 77)) (v := ?_) (a' := ?_) #[true, true, true, true, true, true, true, true, true, true, true, false, false] rfl rfl (by kernel_rfl) (fun _ _ _ h => h) (Or.inl ⟨by rfl, ?_⟩) ?_ ?_
    rotate_left
    ·intro w'
     go_simp
     with_reducible rfl
    rotate_left
    ·simp only [Act.put, List.setIfInBounds_toArray, List.set_cons_zero, List.set_cons_succ, i64_w, i32_w]
     rfl
    refine pure_ (i := 11) (N := (some 14)) (v := ?_) (a' := ?_) #[true, true, true, true, true, true, true, true, true, true, true, true, false] rfl rfl (by kernel_rfl) (fun _ _ _ h => h) (Or.inl ⟨by rfl, ?_⟩) ?_ ?_
    rotate_left
    ·intro w'
     go_simp
     with_reducible rfl
    rotate_left
    ·simp only [Act.put, List.setIfInBounds_toArray, List.set_cons_zero, List.set_cons_succ, i64_w, i32_w]
     rfl
    refine pure_ (i := 12) (N := (some 15)) (v := ?_) (a' := ?_) #[true, true, true, true, true, true, true, true, true, true, true, true, true] rfl rfl (by kernel_rfl) (fun _ _ _ h => h) (Or.inl ⟨by rfl, ?_⟩) ?_ ?_
    rotate_left
    ·intro w'
     go_simp
     with_reducible rfl
    rotate_left
    ·simp only [Act.put, List.setIfInBounds_toArray, List.set_cons_zero, List.set_cons_succ, i64_w, i32_w]
     rfl
    refine done_ (by kernel_rfl) ?_
    cases q2 with
    | true =>
     have HRV := Aside0.mk (show r = (q1, true) by rw [HNN.out, if_pos rfl])
     go_wp2
     go_ret2
     rw [HRV.out]
     exact ⟨v11, rfl, HR12.out, HB11.out⟩
    | false =>
     have HRV := Aside0.mk (show r = chLoop (chosenB a b m) l (t + 1) (b.length - (t + 1)) by rw [HNN.out, if_neg (by decide)])
     go_wp2
     go_roundg (k1 - 1)
     case measure => have := HKQ.out; omega
     case rel => exact ⟨t + 1, by go_num, ⟨by have := HKQ.out; omega⟩, HB11, HG11, HRV⟩
   ·obtain rfl : t = b.length := by have := HKQ.out; omega
    have HRV := Aside0.mk (show r = ([], false) by rw [HLP.out, chLoop_end])
    go_wp2
    go_ret2
    rw [HRV.out]
    exact ⟨_, rfl, Kd.R_nil _ _ _ _ _, HBW.out⟩
theorem chosen_all (hc : CaseIs a b c) : ∀ (m : Nat) (w : World), CaseAt w A0 c0 a A1 c1 b A2 c2 c → ∀ (base : Nat) (v : Value) (l : List Int), Kd.R (Kd.int .i64) 3 w base (fun _ => True) v l → base ≤ w.heap.size → l.length + m ≤ 12 → (∀ x ∈ l, 0 ≤ x ∧ x < (b.length : Int)) → Calls Tryd.prog 57 #[.agg #[.slice A0 a.length c0, .slice A1 b.length c1, .slice A2 c.length c2], v, .int .i64 m] w (ChPost base (chosenB a b m l) w)
 | 0, w, h, base, v, l, hR, hb, hl, hm => chosen_zero h hc base v l hR (by omega) hm
 | m + 1, w, h, base, v, l, hR, hb, hl, hm => chosen_step h hc m base v l hR hb hl hm (fun w h base v l hR hb hl hm => chosen_all hc m w h base v l hR hb hl hm)
end
def tickingref07_chosen.f (a : List Int) (b : List (List Int)) (c : List Int) (l : List Int) (x : Int) : Option (List Int × Bool) := if caseB a b c = true ∧ l = [] ∧ 0 ≤ x ∧ x ≤ 12 then some (chosenB a b x.toNat []) else none
theorem tickingref07_chosen.calls (A0 : Option Addr) (c0 : Nat) (a : List Int) (A1 : Option Addr) (c1 : Nat) (b : List (List Int)) (A2 : Option Addr) (c2 : Nat) (c : List Int) (AL : Option Addr) (cl : Nat) (l : List Int) (x : Int) (r1 : List Int) (r2 : Bool) (w : World)
  (h0 : Kd.C (Kd.int .i64) w A0 a.length a) (n0 : a.length ≤ c0) (h1 : Kd.C (Kd.slice 3 (Kd.int .i64)) w A1 b.length b) (n1 : b.length ≤ c1) (h2 : Kd.C (Kd.int .i64) w A2 c.length c) (n2 : c.length ≤ c2) (hl : Kd.C (Kd.int .i64) w AL l.length l) (nl : l.length ≤ cl) (h : tickingref07_chosen.f a b c l x = some (r1, r2)) (hnil : Value.slice AL l.length cl = .slice none 0 0 := by exact rfl) :
  Calls Tryd.prog 57 #[.agg #[.slice A0 a.length c0, .slice A1 b.length c1, .slice A2 c.length c2], .slice AL l.length cl, .int .i64 x] w fun e w' => ∃ v0_ : Value, e = .returned (.tuple #[v0_, .bool r2]) ∧ Kd.R (Kd.int .i64) 3 w' w.heap.size (fun _ => True) v0_ r1 ∧ Below w.heap.size w w' := by
 have H : CaseAt w A0 c0 a A1 c1 b A2 c2 c := ⟨h0, n0, h1, n1, h2, n2⟩
 unfold tickingref07_chosen.f at h
 split at h
 ·rename_i hc
  obtain ⟨hc1, rfl, hx0, hx1⟩ := hc
  have e := Option.some.inj h
  rw [hnil, show x = ((x.toNat : Nat) : Int) by omega]
  have := chosen_all (case_is hc1) x.toNat w H w.heap.size (.slice none 0 0) [] (Kd.R_nil _ _ _ _ _) (Nat.le_refl _) (by simp; omega) (by simp)
  rw [e] at this
  exact this
 ·cases h
end Go.Proofs.YtekmiepdodaidaaDoor.X
end

section
namespace Go.Proofs.YtekmiepdodaidaaDoor.X
open Go.RowKit Go.Proofs.YtekmiepdodaidaaDoorW.PrintWords Go.Proofs.YtekmiepdodaidaaDoorW.PrintLast Go.Proofs.YtekmiepdodaidaaDoorW.PrintMore
attribute [local go_sem] max2_int min2_int max_two min_two max_three min_three max_four min_four   -- for this text's walks alone
set_option linter.unusedVariables false
set_option linter.unusedSimpArgs false

def tickingref07_Cover.l0 : Nat → Int → List Int → List (List Int) → List Int → Option (List Int × Bool)
 | 0, _, _, _, _ => none
 | k + 1, x4, x440000, x440001, x440002 => if x4 ≤ (x440001.length : Int) then ((tickingref07_chosen.f x440000 x440001 x440002 ([] : List Int) x4).bind fun bt443 => (if bt443.2 = true then (some (bt443.1, true)) else (tickingref07_Cover.l0 k (wrap64 (x4 + 1)) x440000 x440001 x440002))) else (some (([] : List Int), false))
def tickingref07_Cover.f (k : Nat) (l0_0 : List Int) (l0_1 : List (List Int)) (l0_2 : List Int) : Option (List Int × Bool) := (tickingref07_Alike.f k l0_0 l0_1 l0_2).bind fun t440 => (if (t440.length : Int) > 0 then (some (([] : List Int), false)) else (tickingref07_Cover.l0 k 0 l0_0 l0_1 l0_2))
set_option maxHeartbeats 8000000 in
set_option maxRecDepth 100000 in
theorem tickingref07_Cover.calls (k : Nat) (A0_0 : Option Addr) (c0_0 : Nat) (l0_0 : List Int) (A0_1 : Option Addr) (c0_1 : Nat) (l0_1 : List (List Int)) (A0_2 : Option Addr) (c0_2 : Nat) (l0_2 : List Int) (r1 : List Int) (r2 : Bool) (w : World) (hr0_0 : Kd.C (Kd.int .i64) w A0_0 l0_0.length l0_0) (hc0_0 : l0_0.length ≤ c0_0) (hr0_1 : Kd.C (Kd.slice 3 (Kd.int .i64)) w A0_1 l0_1.length l0_1) (hc0_1 : l0_1.length ≤ c0_1) (hr0_2 : Kd.C (Kd.int .i64) w A0_2 l0_2.length l0_2) (hc0_2 : l0_2.length ≤ c0_2) (h : tickingref07_Cover.f k l0_0 l0_1 l0_2 = some (r1, r2)) :
  Calls Tryd.prog 30 #[.agg #[.slice A0_0 l0_0.length c0_0, .slice A0_1 l0_1.length c0_1, .slice A0_2 l0_2.length c0_2]] w fun e w' => ∃ v0_ : Value, e = .returned (.tuple #[v0_, .bool r2]) ∧ Kd.R (Kd.int .i64) 3 w' w.heap.size (fun _ => True) v0_ r1 ∧ Below w.heap.size w w' := by
 have hu25 := Tryd.underlying25
 have HR0_0 := Aside0.mk hr0_0
 have HC0_0 := Aside0.mk hc0_0
 clear hr0_0 hc0_0
 have HR0_1 := Aside0.mk hr0_1
 have HC0_1 := Aside0.mk hc0_1
 clear hr0_1 hc0_1
 have HR0_2 := Aside0.mk hr0_2
 have HC0_2 := Aside0.mk hc0_2
 clear hr0_2 hc0_2
 have HB := Aside0.mk (Below.refl w.heap.size w)
 have H : ((tickingref07_Alike.f k l0_0 l0_1 l0_2).bind fun t440 => (if (t440.length : Int) > 0 then (some (([] : List Int), false)) else (tickingref07_Cover.l0 k 0 l0_0 l0_1 l0_2))) = some (r1, r2) := h
 clear h
 replace H := Option.bind_eq_some_iff.mp H
 obtain ⟨t440, A20, H⟩ := H
 replace H : (if (t440.length : Int) > 0 then (some (([] : List Int), false)) else (tickingref07_Cover.l0 k 0 l0_0 l0_1 l0_2)) = some (r1, r2) := H
 have A2 := Aside0.mk A20
 clear A20
 go_enter Tryd.func30, Tryd.ntmps30
 go_wp2_with (first | ((with_reducible refine gate_dst (N := 1) rfl ?_); refine box_event ?hg (N := 1) ?hd (cs := #[.slice A0_0 l0_0.length c0_0, .slice A0_1 l0_1.length c0_1, .slice A0_2 l0_2.length c0_2]) (t := 25) ?hr ?_; (case hd => rfl); (case hg => rfl); (case hr => first | (go_simp; done) | (go_simp; rfl)); intro gb439 hg w4 hbox hb; have n0_ := Aside0.mk (below_step bz hb); have n1_ := Aside0.mk (hbox); have n2_ := Aside0.mk ((by rw [hg]; exact (below_size bz) : w.heap.size ≤ gb439)); have n3_ := Aside0.mk ((by rw [hg]; exact (below_size bz) : w.heap.size ≤ gb439)); clear HB; have HB := n0_; have BK439 := n1_; have GW439 := n2_; have GE439 := n3_; clear n0_ n1_ n2_ n3_; clear hb hbox hg; have hcz5_0 : w4.cell? ⟨gb439, 0, none⟩ = some (.slice A0_0 l0_0.length c0_0) := (blk_cell BK439.out 0).trans rfl; have hcz5_1 : w4.cell? ⟨gb439, 1, none⟩ = some (.slice A0_1 l0_1.length c0_1) := (blk_cell BK439.out 1).trans rfl; have hcz5_2 : w4.cell? ⟨gb439, 2, none⟩ = some (.slice A0_2 l0_2.length c0_2) := (blk_cell BK439.out 2).trans rfl; have hfz5_0 := blk_frozen BK439.out 0; have hfz5_1 := blk_frozen BK439.out 1; have hfz5_2 := blk_frozen BK439.out 2) | ((with_reducible refine gate_callee (f := 18) rfl ?_); refine goesL_ (some 8) rfl rfl Tryd.func18 (by kernel_rfl) rfl #[.agg #[.slice A0_0 l0_0.length c0_0, .slice A0_1 l0_1.length c0_1, .slice A0_2 l0_2.length c0_2]] rfl dz ?_; (with_reducible refine (tickingref07_Alike.calls k _ _ l0_0 _ _ l0_1 _ _ l0_2 t440 _ ?side1 ?side2 ?side3 ?side4 ?side5 ?side6 A2.out).mono ?_); (case side1 => exact cz ((Kd.C_below HR0_0.out HB.out))); (case side2 => exact HC0_0.out); (case side3 => exact cz ((Kd.C_below HR0_1.out HB.out))); (case side4 => exact HC0_1.out); (case side5 => exact cz ((Kd.C_below HR0_2.out HB.out))); (case side6 => exact HC0_2.out); rintro e w6 ⟨v441, rfl, ho0, hb⟩; refine ⟨_, rfl, ?_⟩; have n0_ := Aside0.mk (Kd.R_lower ho0 (below_size bz)); have n1_ := Aside0.mk (kb BK439.out hb); have n2_ := Aside0.mk (below_step bz hb); clear BK439; clear HB; have HO442 := n0_; have BK439 := n1_; have HB := n2_; clear n0_ n1_ n2_; (try clear hb); (try clear hb2); (try clear hk); (try clear hi); (try clear ho0); obtain ⟨Ao7, co7, eo7⟩ := Kd.R_slice HO442.out; subst eo7; refine hold_ ?_; intro P_ hP_))
 refine hP_.out ?_
 clear hP_ P_
 by_cases c3 : (t440.length : Int) > 0
 ·rw [if_pos c3] at H
  have c3b0 : decide (0 < (t440.length : Int)) = true := decide_eq_true c3
  have c3b1 : decide (0 < t440.length) = true := decide_eq_true (by omega)
  clear c3
  simp only [Option.some.injEq, Prod.mk.injEq] at H
  obtain ⟨rfl, rfl⟩ := H
  go_wp2_with fail
  go_ret2
  exact ⟨_, by first | rfl | (simp [errW_none, errW_some] <;> rfl) | (simp [*, errW_none, errW_some] <;> rfl), by first | exact Kd.R_nil _ _ _ _ _ | exact Kd.N_nil _ _ _ _ _ | exact Kd.V_nil _ _ _ _ _ | exact Kd.Q_nil _ _ _ _ _ | exact Kd.S_nil _ _ _ _ _, by repeat (first | (with_reducible first | exact HB.out | apply below_alloc | apply pw_below_drewN | apply below_drew1 | refine below_set ?_ GE439.out) | exact HB.out)⟩
 ·rw [if_neg c3] at H
  have c3b0 : decide (0 < (t440.length : Int)) = false := decide_eq_false c3
  have c3b1 : decide (0 < t440.length) = false := decide_eq_false (by omega)
  clear c3
  have H' := Aside0.mk H
  clear H
  go_wp2_with fail
  go_loopg [4] k (fun kq v4 w' => ∃ (x4_1 : Int), v4 = .int .i64 x4_1 ∧ Aside0 (tickingref07_Cover.l0 kq x4_1 l0_0 l0_1 l0_2 = some (r1, r2)) ∧ Aside0 (kq ≤ k) ∧ Aside0 (w'.heap[gb439]? = some (.cells #[(.slice A0_0 l0_0.length c0_0), (.slice A0_1 l0_1.length c0_1), (.slice A0_2 l0_2.length c0_2)] 25 (0, 0))) ∧ Aside0 (Below w.heap.size w w'))
  case atStart => exact ⟨(0), (by first | rfl | (simp; done) | (simp [*]; done)), H', ⟨Nat.le_refl _⟩, ⟨by (with_reducible repeat (first | refine blk_drewN ?_ _ | refine blk_drew ?_ | refine blk_alloc ?_ _)); exact BK439.out⟩, ⟨by repeat (first | (with_reducible first | exact HB.out | apply below_alloc | apply pw_below_drewN | apply below_drew1 | refine below_set ?_ GE439.out) | exact HB.out)⟩⟩
  case round =>
   clear H'
   try clear c1
   try clear p2
   try clear c3
   try clear c3b0
   try clear c3b1
   try clear hcz5_0
   try clear hcz5_1
   try clear hcz5_2
   try clear hcz5_0
   try clear hcz5_1
   try clear hcz5_2
   try clear hfz5_0
   try clear hfz5_1
   try clear hfz5_2
   try clear hfz5_0
   try clear hfz5_1
   try clear hfz5_2
   obtain ⟨x4_1, rfl, HA, HK1, BK439, HB⟩ := hrel
   cases gk with
   | zero => exact absurd HA.out (by simp [tickingref07_Cover.l0])
   | succ k1 =>
    have H := HA.out
    clear HA
    simp only [tickingref07_Cover.l0] at H
    by_cases c12 : x4_1 ≤ (l0_1.length : Int)
    ·rw [if_pos c12] at H
     have c12b0 : decide (x4_1 ≤ (l0_1.length : Int)) = true := decide_eq_true c12
     clear c12
     replace H := Option.bind_eq_some_iff.mp H
     obtain ⟨⟨t443, t446⟩, A130, H⟩ := H
     replace H : (if t446 = true then (some (t443, true)) else (tickingref07_Cover.l0 k1 (wrap64 (x4_1 + 1)) l0_0 l0_1 l0_2)) = some (r1, r2) := H
     have A13 := Aside0.mk A130
     clear A130
     by_cases c14 : t446 = true
     ·subst c14
      have H1 : (some (t443, true)) = some (r1, r2) := by rw [if_pos rfl] at H; exact H
      clear H
      have H := H1
      clear H1
      simp only [Option.some.injEq, Prod.mk.injEq] at H
      obtain ⟨rfl, rfl⟩ := H
      have hcz15_0 : wr.cell? ⟨gb439, 0, none⟩ = some (.slice A0_0 l0_0.length c0_0) := (blk_cell BK439.out 0).trans rfl
      have hcz15_1 : wr.cell? ⟨gb439, 1, none⟩ = some (.slice A0_1 l0_1.length c0_1) := (blk_cell BK439.out 1).trans rfl
      have hcz15_2 : wr.cell? ⟨gb439, 2, none⟩ = some (.slice A0_2 l0_2.length c0_2) := (blk_cell BK439.out 2).trans rfl
      have hfz15_0 := blk_frozen BK439.out 0
      have hfz15_1 := blk_frozen BK439.out 1
      have hfz15_2 := blk_frozen BK439.out 2
      go_wp2_with (first | ((with_reducible refine gate_callee (f := 57) rfl ?_); refine goesL_ (some 21) rfl rfl Tryd.func57 (by kernel_rfl) rfl #[.agg #[.slice A0_0 l0_0.length c0_0, .slice A0_1 l0_1.length c0_1, .slice A0_2 l0_2.length c0_2], .slice none 0 0, .int .i64 x4_1] rfl dz ?_; (refine (tickingref07_chosen.calls _ _ l0_0 _ _ l0_1 _ _ l0_2 _ _ ([] : List Int) x4_1 t443 true _ ?side1 ?side2 ?side3 ?side4 ?side5 ?side6 ?side7 ?side8 A13.out).mono ?_); (case side1 => exact cz ((Kd.C_below HR0_0.out HB.out))); (case side2 => exact HC0_0.out); (case side3 => exact cz ((Kd.C_below HR0_1.out HB.out))); (case side4 => exact HC0_1.out); (case side5 => exact cz ((Kd.C_below HR0_2.out HB.out))); (case side6 => exact HC0_2.out); (case side7 => exact Kd.C_nil _ _); (case side8 => exact Nat.le_refl _); rintro e w16 ⟨v444, rfl, ho0, hb⟩; refine ⟨_, rfl, ?_⟩; have n0_ := Aside0.mk (Kd.R_lower ho0 (below_size bz)); have n1_ := Aside0.mk (kb BK439.out hb); have n2_ := Aside0.mk (below_step bz hb); clear BK439; clear HB; have HO445 := n0_; have BK439 := n1_; have HB := n2_; clear n0_ n1_ n2_; (try clear hb); (try clear hb2); (try clear hk); (try clear hi); (try clear ho0)))
      go_ret2
      exact ⟨_, by first | rfl | (simp [errW_none, errW_some] <;> rfl) | (simp [*, errW_none, errW_some] <;> rfl), by (with_reducible repeat (first | apply Kd.R_alloc | apply Kd.R_drewN | apply Kd.R_drew)); exact HO445.out, by repeat (first | (with_reducible first | exact HB.out | apply below_alloc | apply pw_below_drewN | apply below_drew1 | refine below_set ?_ GE439.out) | exact HB.out)⟩
     ·replace c14 := Bool.eq_false_iff.mpr c14
      subst c14
      have H1 : (tickingref07_Cover.l0 k1 (wrap64 (x4_1 + 1)) l0_0 l0_1 l0_2) = some (r1, r2) := by rw [if_neg (show ¬ (false = true) by decide)] at H; exact H
      clear H
      have H := H1
      clear H1
      have H' := Aside0.mk H
      clear H
      have hcz17_0 : wr.cell? ⟨gb439, 0, none⟩ = some (.slice A0_0 l0_0.length c0_0) := (blk_cell BK439.out 0).trans rfl
      have hcz17_1 : wr.cell? ⟨gb439, 1, none⟩ = some (.slice A0_1 l0_1.length c0_1) := (blk_cell BK439.out 1).trans rfl
      have hcz17_2 : wr.cell? ⟨gb439, 2, none⟩ = some (.slice A0_2 l0_2.length c0_2) := (blk_cell BK439.out 2).trans rfl
      have hfz17_0 := blk_frozen BK439.out 0
      have hfz17_1 := blk_frozen BK439.out 1
      have hfz17_2 := blk_frozen BK439.out 2
      go_wp2_with (first | ((with_reducible refine gate_callee (f := 57) rfl ?_); refine goesL_ (some 21) rfl rfl Tryd.func57 (by kernel_rfl) rfl #[.agg #[.slice A0_0 l0_0.length c0_0, .slice A0_1 l0_1.length c0_1, .slice A0_2 l0_2.length c0_2], .slice none 0 0, .int .i64 x4_1] rfl dz ?_; (refine (tickingref07_chosen.calls _ _ l0_0 _ _ l0_1 _ _ l0_2 _ _ ([] : List Int) x4_1 t443 false _ ?side1 ?side2 ?side3 ?side4 ?side5 ?side6 ?side7 ?side8 A13.out).mono ?_); (case side1 => exact cz ((Kd.C_below HR0_0.out HB.out))); (case side2 => exact HC0_0.out); (case side3 => exact cz ((Kd.C_below HR0_1.out HB.out))); (case side4 => exact HC0_1.out); (case side5 => exact cz ((Kd.C_below HR0_2.out HB.out))); (case side6 => exact HC0_2.out); (case side7 => exact Kd.C_nil _ _); (case side8 => exact Nat.le_refl _); rintro e w18 ⟨v444, rfl, ho0, hb⟩; refine ⟨_, rfl, ?_⟩; have n0_ := Aside0.mk (Kd.R_lower ho0 (below_size bz)); have n1_ := Aside0.mk (kb BK439.out hb); have n2_ := Aside0.mk (below_step bz hb); clear BK439; clear HB; have HO445 := n0_; have BK439 := n1_; have HB := n2_; clear n0_ n1_ n2_; (try clear hb); (try clear hb2); (try clear hk); (try clear hi); (try clear ho0)))
      go_roundg k1
      case measure => have := HK1.out; omega
      case rel => exact ⟨(wrap64 (x4_1 + 1)), (by first | rfl | (simp; done) | (simp [*]; done)), H', ⟨by have := HK1.out; omega⟩, ⟨by (with_reducible repeat (first | refine blk_drewN ?_ _ | refine blk_drew ?_ | refine blk_alloc ?_ _)); exact BK439.out⟩, ⟨by repeat (first | (with_reducible first | exact HB.out | apply below_alloc | apply pw_below_drewN | apply below_drew1 | refine below_set ?_ GE439.out) | exact HB.out)⟩⟩
    ·rw [if_neg c12] at H
     have c12b0 : decide (x4_1 ≤ (l0_1.length : Int)) = false := decide_eq_false c12
     clear c12
     simp only [Option.some.injEq, Prod.mk.injEq] at H
     obtain ⟨rfl, rfl⟩ := H
     have hcz19_0 : wr.cell? ⟨gb439, 0, none⟩ = some (.slice A0_0 l0_0.length c0_0) := (blk_cell BK439.out 0).trans rfl
     have hcz19_1 : wr.cell? ⟨gb439, 1, none⟩ = some (.slice A0_1 l0_1.length c0_1) := (blk_cell BK439.out 1).trans rfl
     have hcz19_2 : wr.cell? ⟨gb439, 2, none⟩ = some (.slice A0_2 l0_2.length c0_2) := (blk_cell BK439.out 2).trans rfl
     have hfz19_0 := blk_frozen BK439.out 0
     have hfz19_1 := blk_frozen BK439.out 1
     have hfz19_2 := blk_frozen BK439.out 2
     go_wp2
     go_ret2
     exact ⟨_, by first | rfl | (simp [errW_none, errW_some] <;> rfl) | (simp [*, errW_none, errW_some] <;> rfl), by first | exact Kd.R_nil _ _ _ _ _ | exact Kd.N_nil _ _ _ _ _ | exact Kd.V_nil _ _ _ _ _ | exact Kd.Q_nil _ _ _ _ _ | exact Kd.S_nil _ _ _ _ _, by repeat (first | (with_reducible first | exact HB.out | apply below_alloc | apply pw_below_drewN | apply below_drew1 | refine below_set ?_ GE439.out) | exact HB.out)⟩

end Go.Proofs.YtekmiepdodaidaaDoor.X
end

section
namespace Go.Proofs.YtekmiepdodaidaaDoor.X
open Go.RowKit Go.Proofs.YtekmiepdodaidaaDoorW.PrintWords Go.Proofs.YtekmiepdodaidaaDoorW.PrintLast Go.Proofs.YtekmiepdodaidaaDoorW.PrintMore
attribute [local go_sem] max2_int min2_int max_two min_two max_three min_three max_four min_four   -- for this text's walks alone
set_option linter.unusedVariables false
set_option linter.unusedSimpArgs false

theorem eqA57 (d : Nat) (w : World) (x0 y0 : Int) (x1 y1 : Int) (x2 y2 : Int) (x3 y3 : Int) :
  (Op.equalIn (d + 2) 57 (.agg #[.int .i64 x0, .int .i64 x1, .int .i64 x2, .int .i64 x3]) (.agg #[.int .i64 y0, .int .i64 y1, .int .i64 y2, .int .i64 y3])).run Tryd.prog w = .ok (x0 == y0 && (x1 == y1 && (x2 == y2 && (x3 == y3)))) w := by
 refine eqA_of Tryd.underlying57 (by kernel_rfl) ?_
 refine eqf_cons (by rfl) (by go_simp; rfl) (by go_simp; rfl) (by go_simp) ?_
 refine eqf_cons (by rfl) (by go_simp; rfl) (by go_simp; rfl) (by go_simp) ?_
 refine eqf_cons (by rfl) (by go_simp; rfl) (by go_simp; rfl) (by go_simp) ?_
 exact eqf_last (by rfl) (by go_simp; rfl) (by go_simp; rfl) (by go_simp)
end Go.Proofs.YtekmiepdodaidaaDoor.X
end
