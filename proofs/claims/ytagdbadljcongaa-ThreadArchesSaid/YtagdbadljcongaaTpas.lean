/- Texts behind ThreadArches, part 19: contracts of the program's functions and the plain words for them. -/
import Derived.Lib.OthersKept
import Derived.Lib.TrimU
import Derived.Laws.RangeString
import Derived.Shelf.GgClosure.Gives
import Derived.Test.YtagdbadljcongaaTpaq
import Derived.Test.YtagdbadljcongaaTpar
section
/- thread.differ, the walk. -/
set_option linter.unusedVariables false
set_option linter.unusedSimpArgs false
namespace Go.Proofs.Ytagdbadljcongaa.X
open Go Go.RowKit Go.Proofs.YtagdbadljcongaaW.PrintWords Go.Proofs.YtagdbadljcongaaW.PrintLast Go.Proofs.YtagdbadljcongaaW.PrintMore
attribute [local go_sem] Oper.semAt_some
attribute [local go_sem high] eqA110
/-- What follows a round of letters. -/
def bfsK (u w : List Nat) (n q : Nat) : Option (List Nat) × List Ent → Option (List Nat)
  | (some r, _) => some r
  | (none, Q) => bfs u w n q Q
theorem bfs_step {u w : List Nat} {n q : Nat} {Q : List Ent} (h : q < Q.length) : bfs u w (n + 1) q Q = bfsK u w n (q + 1) (bfsR u w Q[q] [0, 1, 2, 3] Q) := by
  conv => lhs; unfold bfs
  rw [List.getElem?_eq_getElem h]
  dsimp only
  generalize bfsR u w Q[q] [0, 1, 2, 3] Q = x
  rcases x with ⟨_ | _, _⟩ <;> rfl
theorem drop4 {c : Nat} (h : c < 4) : [0, 1, 2, 3].drop c = c :: [0, 1, 2, 3].drop (c + 1) := by
  have : c = 0 ∨ c = 1 ∨ c = 2 ∨ c = 3 := by omega
  rcases this with rfl | rfl | rfl | rfl <;> rfl
theorem bfsR_stop {u w : List Nat} {p : Ent} {c a b : Nat} {cs : List Nat} {Q : List Ent} (ha : nx u p.i (97 + c) = a) (hb : nx w p.j (97 + c) = b) (h : decide (a < u.length) ≠ decide (b < w.length)) : bfsR u w p (c :: cs) Q = (some (p.wd ++ [97 + c]), Q) := by
  unfold bfsR
  rw [ha, hb, if_pos (by simpa using h)]
theorem bfsR_push {u w : List Nat} {p : Ent} {c a b : Nat} {cs : List Nat} {Q : List Ent} (ha : nx u p.i (97 + c) = a) (hb : nx w p.j (97 + c) = b) (h1 : a < u.length) (h2 : b < w.length) (h : knownB Q (a + 1) (b + 1) = false) : bfsR u w p (c :: cs) Q = bfsR u w p cs (Q ++ [⟨a + 1, b + 1, p.wd ++ [97 + c]⟩]) := by
  conv => lhs; unfold bfsR
  rw [ha, hb, if_neg (by simp [h1, h2]), if_pos ⟨h1, h⟩]
theorem bfsR_skip {u w : List Nat} {p : Ent} {c a b : Nat} {cs : List Nat} {Q : List Ent} (ha : nx u p.i (97 + c) = a) (hb : nx w p.j (97 + c) = b) (h1 : decide (a < u.length) = decide (b < w.length)) (h : a < u.length → knownB Q (a + 1) (b + 1) = true) : bfsR u w p (c :: cs) Q = bfsR u w p cs Q := by
  conv => lhs; unfold bfsR
  rw [ha, hb, if_neg (by simp [h1]), if_neg (fun e => by rw [h e.1] at e; cases e.2)]
/-- Where a round stands when c letters have been tried. -/
structure DfR (u s : ByteArray) (E : DfG) (w : World) (r : Option (List Nat)) (T n q gp pi pj : Nat) (ds : List Deferred) (k : Nat) (W : World) : Prop where
  ex : ∃ (Q : List Ent) (A : Option Addr) (c : Nat), DfAt u s E w.heap.size (fun x => x ≠ gp) Q A c W ∧ QOk (bl u) (bl s) Q ∧ ∃ h : q < Q.length, (Q[q]).i = pi ∧ (Q[q]).j = pj ∧ bfsK (bl u) (bl s) n (q + 1) (bfsR (bl u) (bl s) (Q[q]) ([0, 1, 2, 3].drop k) Q) = r
  cp : W.heap[gp]? = some (.cells #[.int .i64 pi, .int .i64 pj] 110 (0, 0))
  bel : Below w.heap.size w W
  mks : Marks w.heap.size W ds
  dl : ∀ D, ({ target := .collected D, args := #[] } : Deferred) ∈ ds → D < T
/-- What a round leaves that has found the word. -/
structure DfX (E : DfG) (w : World) (r : Option (List Nat)) (T : Nat) (ds : List Deferred) (W : World) : Prop where
  ex : ∃ o : ByteArray, W.heap[E.gr]? = some (.cells #[.string o] 9 (0, 0)) ∧ bl o = r.getD []
  bel : Below w.heap.size w W
  mks : Marks w.heap.size W ds
  dl : ∀ D, ({ target := .collected D, args := #[] } : Deferred) ∈ ds → D < T
theorem DfR.put {u s : ByteArray} {E : DfG} {w W : World} {r : Option (List Nat)} {T n q gp pi pj : Nat} {ds : List Deferred} {k : Nat} (h : DfR u s E w r T n q gp pi pj ds k W) (hT : w.heap.size ≤ T) (hB : E.B < T) {l : Nat} {ob : Obj} (hl : T ≤ l) (ho : W.heap[l]? = some ob) (hc : ob.isCells = false) (ob' : Obj) : DfR u s E w r T n q gp pi pj ds k (W.putObj l ob') := by
  obtain ⟨Q, A, c, h1, h2⟩ := h.ex
  refine ⟨⟨Q, A, c, h1.put ho hc (by omega) ob', h2⟩, ?_, below_put h.bel (by omega) _, h.mks.put (fun D hD e => by have := h.dl D hD; omega) _, h.dl⟩
  rw [World.putObj_heap_other (fun e => by subst e; have := h.cp; rw [ho] at this; injection this with this; subst this; cases hc)]
  exact h.cp
theorem DfX.put {E : DfG} {w W : World} {r : Option (List Nat)} {T : Nat} {ds : List Deferred} (h : DfX E w r T ds W) (hT : w.heap.size ≤ T) {l : Nat} {ob : Obj} (hl : T ≤ l) (ho : W.heap[l]? = some ob) (hc : ob.isCells = false) (ob' : Obj) : DfX E w r T ds (W.putObj l ob') := by
  obtain ⟨o, h1, h2⟩ := h.ex
  refine ⟨⟨o, ?_, h2⟩, below_put h.bel (by omega) _, h.mks.put (fun D hD e => by have := h.dl D hD; omega) _, h.dl⟩
  rw [World.putObj_heap_other (fun e => by subst e; rw [ho] at h1; injection h1 with h1; subst h1; cases hc)]
  exact h1
theorem DfR.below {u s : ByteArray} {E : DfG} {w W W' : World} {r : Option (List Nat)} {T n q gp pi pj : Nat} {ds : List Deferred} {k : Nat} (h : DfR u s E w r T n q gp pi pj ds k W) (hb : Below W.heap.size W W') : DfR u s E w r T n q gp pi pj ds k W' := by
  obtain ⟨Q, A, c, h1, h2⟩ := h.ex
  exact ⟨⟨Q, A, c, h1.below hb, h2⟩, blk_below h.cp hb, below_step h.bel hb, h.mks.below hb, h.dl⟩
theorem bl_append (a b : ByteArray) : bl (a ++ b) = bl a ++ bl b := by unfold bl; rw [ByteArray.data_append, Array.toList_append, List.map_append]
theorem bl_ltr1 {c : Nat} (hc : c < 4) : bl (ltr c) = [97 + c] := by
  have hcc : c = 0 ∨ c = 1 ∨ c = 2 ∨ c = 3 := by omega
  rcases hcc with rfl | rfl | rfl | rfl <;> rfl
def strOf : Value → ByteArray
  | .string s => s
  | _ => ⟨#[]⟩
theorem QOk.wdlen {u w : List Nat} {Q : List Ent} (h : QOk u w Q) : ∀ m (hm : m < Q.length), (Q[m]).wd.length ≤ m := by
  intro m
  induction m using Nat.strongRecOn with
  | ind m ih =>
    intro hm
    rcases Nat.eq_zero_or_pos m with h0 | h0
    · subst h0
      obtain ⟨t, ht, _⟩ := h.hd
      simp [ht, root]
    · obtain ⟨m', c, h', _, e⟩ := h.par m hm h0
      have := ih m' h' (by omega)
      rw [e, List.length_append]
      simp; omega
/-- The way back: the m-th entry is reached, o is what has been spelt. -/
structure DfS (u s : ByteArray) (E : DfG) (w W : World) (gp : Nat) (Q : List Ent) (A : Option Addr) (c : Nat) (R : List Nat) (ds : List Deferred) (m : Nat) (o : ByteArray) (V : World) : Prop where
  at_ : DfAt u s E w.heap.size (fun x => x ≠ gp) Q A c V
  hm : ∃ h : m < Q.length, V.heap[gp]? = some (.cells #[.int .i64 (Q[m]).i, .int .i64 (Q[m]).j] 110 (0, 0)) ∧ (Q[m]).wd ++ bl o = R
  bel : Below w.heap.size w V
  ko : KeepsOthers W V
  mks : Marks w.heap.size V ds
theorem DfS.step {u s : ByteArray} {E : DfG} {w W V : World} {gp : Nat} {Q : List Ent} {A : Option Addr} {c : Nat} {R : List Nat} {ds : List Deferred} {m m' : Nat} {o o' : ByteArray} (h : DfS u s E w W gp Q A c R ds m o V) (hg : w.heap.size ≤ gp) (hm' : m' < Q.length) (hR : (Q[m']).wd ++ bl o' = R) :
    DfS u s E w W gp Q A c R ds m' o' ((V.setCell ⟨gp, 0, none⟩ (.int .i64 (Q[m']).i)).setCell ⟨gp, 1, none⟩ (.int .i64 (Q[m']).j)) := by
  obtain ⟨h0, h1, h2⟩ := h.hm
  have e1 := blk_set h1 0 (.int .i64 (Q[m']).i)
  have e2 := blk_set e1 1 (.int .i64 (Q[m']).j)
  exact ⟨(h.at_.setFar h1 _ _).setFar e1 _ _, ⟨hm', e2, hR⟩, (h.bel.setCell hg _).setCell hg _, (h.ko.trans (KeepsOthers.setCell _ _ _)).trans (KeepsOthers.setCell _ _ _), (h.mks.keepsOthers (KeepsOthers.setCell _ _ _)).keepsOthers (KeepsOthers.setCell _ _ _)⟩
theorem field113_0 (i j : Nat) (o : ByteArray) (W : World) : (Instr.field 113 (stepV i j o) 0).run Try.prog W = .ok (.agg #[.int .i64 (i : Int), .int .i64 (j : Int)]) W := by kernel_rfl
theorem field113_1 (i j : Nat) (o : ByteArray) (W : World) : (Instr.field 113 (stepV i j o) 1).run Try.prog W = .ok (.string o) W := by kernel_rfl
theorem build113 (i j : Int) (o : ByteArray) (W : World) : (Instr.build 113 #[(0, .agg #[.int .i64 i, .int .i64 j]), (1, .string o)]).run Try.prog W = .ok (.agg #[.int .i64 i, .int .i64 j, .string o]) W := by kernel_rfl
/-- What differ returns. -/
def DiPost (r : Option (List Nat)) (w : World) (e : Ending) (w' : World) : Prop := ∃ o, bl o = r.getD [] ∧ e = .returned (.string o) ∧ Below w.heap.size w w'
set_option maxHeartbeats 8000000 in
set_option maxRecDepth 100000 in
theorem differ_any (u s : ByteArray) (bx bw : Nat) (w : World) (hx : WordAt w bx u) (hw : WordAt w bw s) (hu60 : u.size ≤ 60) (hs60 : s.size ≤ 60) (r : Option (List Nat)) (hr : diffW (bl u) (bl s) = r) : Calls Try.prog 54 #[.pointer (some ⟨bx, 0, none⟩), .pointer (some ⟨bw, 0, none⟩)] w (DiPost r w) := by
  have HX := Aside0.mk hx
  have HW := Aside0.mk hw
  have HU60 := Aside0.mk hu60
  have HS60 := Aside0.mk hs60
  have HRR := Aside0.mk hr
  have hmm := @run_makeMap Try.prog
  clear hx hw hu60 hs60 hr
  refine (callsIn_wide (n := 3)).1 (callsIn_of_wp_marks Try.func54 rfl trivial (wpIn_wide.2 ?_))
  simp only [Try.ntmps54, List.size_toArray, List.length_cons, List.length_nil, Nat.reduceAdd, Nat.reduceSub, Array.replicate_succ, Array.replicate_zero, List.push_toArray, List.append_toArray, List.nil_append, List.cons_append]
  go_wp2
  clear hmm
  obtain ⟨W0, hW0⟩ : ∃ W0, ((((((w.alloc (.cells #[.pointer (some ⟨bx, 0, none⟩)] 70)).alloc (.cells #[.pointer (some ⟨bw, 0, none⟩)] 70)).alloc (.cells #[.string ⟨#[]⟩] 9)).alloc (.map #[] 0)).alloc (.cells #[.map (some (w.heap.size + 1 + 1 + 1))] 108)).alloc (.cells #[.int .i64 0, .int .i64 0] 110)).alloc (.cells #[.slice (some ⟨w.heap.size + 1 + 1 + 1 + 1 + 1, 0, none⟩) 1 1] 111) = W0 := ⟨_, rfl⟩
  obtain ⟨E, hE⟩ : ∃ E : DfG, E = ⟨bx, bw, w.heap.size, w.heap.size + 1, w.heap.size + 1 + 1, w.heap.size + 1 + 1 + 1, w.heap.size + 1 + 1 + 1 + 1, w.heap.size + 1 + 1 + 1 + 1 + 1 + 1⟩ := ⟨_, rfl⟩
  have HST := Aside0.mk (show DfAt u s E w.heap.size (fun _ => True) [root] (some ⟨w.heap.size + 1 + 1 + 1 + 1 + 1, 0, none⟩) 1 W0 ∧ Below w.heap.size w W0 by
    rw [← hW0, hE]
    exact DfAt.start u s bx bw w HX.out HW.out)
  have hg : E.gx = w.heap.size ∧ E.gy = w.heap.size + 1 ∧ E.gr = w.heap.size + 1 + 1 ∧ E.gm = w.heap.size + 1 + 1 + 1 + 1 ∧ E.gq = w.heap.size + 1 + 1 + 1 + 1 + 1 + 1 := by rw [hE]; exact ⟨rfl, rfl, rfl, rfl, rfl⟩
  obtain ⟨g1, g2, g3, g4, g5⟩ := hg
  rw [hW0]
  clear hW0 hE
  refine act_named (fun A hA => ?_)
  refine wp_loop_ghost_k (fun n a wr => ∃ (q : Nat) (Q : List Ent) (A : Option Addr) (c : Nat) (ds : List Deferred), ∃ U : Array Value, Aside0 (DfAt u s E w.heap.size (fun _ => True) Q A c wr ∧ Below w.heap.size w wr ∧ Marks w.heap.size wr ds ∧ QOk (bl u) (bl s) Q ∧ n + q = 3845 ∧ q ≤ Q.length ∧ bfs (bl u) (bl s) n q Q = r) ∧ a = { tmps := #[sl U 0, sl U 1, .pointer (some ⟨E.gx, 0, none⟩), .pointer (some ⟨E.gy, 0, none⟩), .pointer (some ⟨E.gr, 0, none⟩), .pointer (some ⟨E.gm, 0, none⟩), .pointer (some ⟨E.gq, 0, none⟩), .int .i64 q, sl U 8, sl U 9, sl U 10, sl U 11, sl U 12, sl U 13, sl U 14, sl U 15, sl U 16, sl U 17, sl U 18, sl U 19, sl U 20, sl U 21, sl U 22, sl U 23, sl U 24, sl U 25, sl U 26, sl U 27, sl U 28, sl U 29, sl U 30, sl U 31, sl U 32, sl U 33, sl U 34, sl U 35, sl U 36, sl U 37, sl U 38, sl U 39, sl U 40, sl U 41, sl U 42, sl U 43, sl U 44, sl U 45, sl U 46, sl U 47, sl U 48, sl U 49, sl U 50, sl U 51, sl U 52, sl U 53, sl U 54, sl U 55, sl U 56, sl U 57, sl U 58, sl U 59, sl U 60, sl U 61, sl U 62, sl U 63, sl U 64, sl U 65, sl U 66, sl U 67, sl U 68, sl U 69, sl U 70, sl U 71, sl U 72, sl U 73, sl U 74, sl U 75, sl U 76, sl U 77, sl U 78, sl U 79, sl U 80, sl U 81, sl U 82, sl U 83, sl U 84, sl U 85, sl U 86, sl U 87, sl U 88, sl U 89, sl U 90, sl U 91], defers := ds }) 3845 ?_ ?_
  · refine ⟨0, [root], _, 1, [], ex_act ⟨⟨HST.out.1, HST.out.2, trivial, QOk.start _ _, rfl, by simp, HRR.out⟩⟩ ?_⟩
    rw [hA, g1, g2, g3, g4, g5]
    rfl
  clear HST g1 g2 g3 g4 g5 hA A HRR
  intro n a wr hI J K hJ hK
  obtain ⟨q, Q, A, c, ds, U, HI, rfl⟩ := hI
  dsimp only
  have hq1 : wr.cell? ⟨E.gq, 0, none⟩ = some (.slice A Q.length c) := (blk_cell HI.out.1.cq 0).trans rfl
  by_cases hlt : q < Q.length
  · have hltI : (q : Int) < (Q.length : Int) := by omega
    obtain ⟨g, cap, hv, _⟩ := Kd.R_form HI.out.1.row (by rw [List.length_map]; omega)
    injection hv with hv1 hv2 hv3
    subst hv1 hv3
    clear hv2
    obtain ⟨p1, p2⟩ := pair_get HI.out.1.row q hlt
    obtain ⟨pi, hpi⟩ : ∃ i, (Q[q]).i = i := ⟨_, rfl⟩
    obtain ⟨pj, hpj⟩ : ∃ j, (Q[q]).j = j := ⟨_, rfl⟩
    rw [hpi] at p1
    rw [hpj] at p2
    have HPI := Aside0.mk (show ∀ h : q < Q.length, (Q[q]).i = pi ∧ (Q[q]).j = pj from fun _ => ⟨hpi, hpj⟩)
    have HLT := Aside0.mk hlt
    have hq0 : (0 : Int) ≤ (q : Int) := by omega
    clear hlt hpi hpj
    go_wp2_with (go_at_call 52; (with_reducible refine (alphabet_calls 4 _).mono ?_); rintro e w7 ⟨rfl, rfl⟩)
    obtain ⟨Ws, hWs⟩ : ∃ Ws, (wr.alloc (.cells #[.int .i64 pi, .int .i64 pj] 110)).alloc (.cells #[.int .i64 4] 3) = Ws := ⟨_, rfl⟩
    obtain ⟨n', hn'⟩ : ∃ n', n = n' + 1 := ⟨n - 1, by
      have h1 := HI.out.2.2.2.1.size (by rw [bl_length]; exact HU60.out) (by rw [bl_length]; exact HS60.out)
      have h2 := HI.out.2.2.2.2.1
      have h3 := HLT.out
      omega⟩
    have hRI : DfR u s E w r Ws.heap.size n' q wr.heap.size pi pj ds 0 Ws := by
      subst hWs
      have hb := below_alloc (below_alloc (Below.refl wr.heap.size wr) (.cells #[.int .i64 pi, .int .i64 pj] 110)) (.cells #[.int .i64 4] 3)
      refine ⟨⟨Q, _, c, (HI.out.1.okMono (fun k hk _ => by omega)).below hb, HI.out.2.2.2.1, HLT.out, (HPI.out _).1, (HPI.out _).2, ?_⟩, blk_alloc (blk_new _ _) _, below_step HI.out.2.1 hb, HI.out.2.2.1.below hb, ?_⟩
      · have h2 := HI.out.2.2.2.2.2.2
        rw [hn', bfs_step HLT.out] at h2
        exact h2
      · intro D hD
        have := blk_lt (HI.out.2.2.1.lt hD)
        simp; omega
    have hbx : Ws.heap[wr.heap.size + 1]? = some (.cells #[.int .i64 4] 3 (0, 0)) := by
      rw [← hWs]; have := blk_new (wr.alloc (.cells #[.int .i64 pi, .int .i64 pj] 110)) (.cells #[.int .i64 4] 3); rwa [World.size_alloc] at this
    rw [hWs]
    have hT : w.heap.size ≤ Ws.heap.size := hRI.bel.size
    have hB : E.B < Ws.heap.size := by
      obtain ⟨Q, A, c, h1, _⟩ := hRI.ex
      obtain ⟨_, _, h2, _⟩ := h1.mp
      exact h2.lt
    obtain ⟨gp, hgp⟩ : ∃ gp, wr.heap.size = gp := ⟨_, rfl⟩
    have hgT : gp < Ws.heap.size := by rw [← hgp, ← hWs]; simp; omega
    rw [hgp] at hRI hbx
    have HRI := Aside0.mk hRI
    have HBX := Aside0.mk hbx
    have HT := Aside0.mk hT
    have HTB := Aside0.mk hB
    have HGT := Aside0.mk hgT
    have HGW := Aside0.mk (show w.heap.size ≤ gp by rw [← hgp]; exact HI.out.2.1.size)
    clear hWs hRI hbx hT hB hgT p1 p2 hq1 hltI hq0
    rw [hgp]
    refine (wpIn_wide (n := 3)).1 ?_
    refine wpIn_rangeFunc_G (F := Fence.wide) rfl (by decide) (gf := 70) (lb := #[.pointer (some ⟨gp + 1, 0, none⟩)]) rfl trivial (enters_of Try.func70 (by kernel_rfl) rfl) (alphabet_seq 4 (gp + 1) Ws (by omega) HBX.out) (fun _ => rfl)
      (fun c W => DfR u s E w r Ws.heap.size n' q gp pi pj ds c W) (fun e c W => e = .ret ∧ DfX E w r Ws.heap.size ds W) (fun c W l ob ob' hl ho hc h => h.put HT.out HTB.out hl ho hc ob') (fun e c W l ob ob' hl ho hc h => ⟨h.1, h.2.put HT.out hl ho hc ob'⟩) ?h0 ?a1 ?assign ?body ?done ?stop
    case h0 => exact fun ob ob' => HRI.out.below (below_alloc (below_alloc (Below.refl _ _) _) _)
    case assign =>
      intro l x W K hK
      gi_wp2
      exact hK
    case body =>
      clear HI HPI HLT hgp hn'
      intro l k W hl hk hI
      obtain ⟨Q2, A2, c2, hat, hqk, hq2, hpi, hpj, hres⟩ := hI.ex
      have HIR := Aside0.mk hI
      have HAT := Aside0.mk hat
      have HQK := Aside0.mk hqk
      have HK := Aside0.mk hk
      have HQ2 := Aside0.mk hq2
      have HP := Aside0.mk (show ∀ h : q < Q2.length, (Q2[q]).i = pi ∧ (Q2[q]).j = pj ∧ bfsK (bl u) (bl s) n' (q + 1) (bfsR (bl u) (bl s) (Q2[q]) ([0, 1, 2, 3].drop k) Q2) = r from fun _ => ⟨hpi, hpj, hres⟩)
      have HPL := Aside0.mk (show pi ≤ u.size ∧ pj ≤ s.size by
        have := hqk.le (List.getElem_mem hq2)
        rw [hpi, hpj, bl_length, bl_length] at this
        exact this)
      have t1 : W.cell? ⟨E.gx, 0, none⟩ = some (.pointer (some ⟨E.bx, 0, none⟩)) := (blk_cell hat.cx 0).trans rfl
      have t2 : W.cell? ⟨E.gy, 0, none⟩ = some (.pointer (some ⟨E.bw, 0, none⟩)) := (blk_cell hat.cy 0).trans rfl
      have t3 : W.cell? ⟨gp, 0, none⟩ = some (.int .i64 pi) := (blk_cell hI.cp 0).trans rfl
      have t4 : W.cell? ⟨gp, 1, none⟩ = some (.int .i64 pj) := (blk_cell hI.cp 1).trans rfl
      have t5 : W.cell? ⟨E.gm, 0, none⟩ = some (.map (some E.B)) := (blk_cell hat.cm 0).trans rfl
      obtain ⟨a, ha⟩ : ∃ a, nx (bl u) pi (97 + k) = a := ⟨_, rfl⟩
      obtain ⟨b, hb⟩ : ∃ b, nx (bl s) pj (97 + k) = b := ⟨_, rfl⟩
      obtain ⟨rx, hrx⟩ : ∃ rx, decide (a < u.size) = rx := ⟨_, rfl⟩
      obtain ⟨ry, hry⟩ : ∃ ry, decide (b < s.size) = ry := ⟨_, rfl⟩
      obtain ⟨kn, hkn⟩ : ∃ kn, knownB Q2 (a + 1) (b + 1) = kn := ⟨_, rfl⟩
      have HA := Aside0.mk ha
      have HB := Aside0.mk hb
      have HRX := Aside0.mk hrx
      have HRY := Aside0.mk hry
      have HKN := Aside0.mk hkn
      have HA60 := Aside0.mk (show a ≤ 60 ∧ b ≤ 60 by
        have h1 := nx_le (bl u) pi (97 + k) (by rw [bl_length]; exact HPL.out.1)
        have h2 := nx_le (bl s) pj (97 + k) (by rw [bl_length]; exact HPL.out.2)
        rw [ha, bl_length] at h1
        rw [hb, bl_length] at h2
        have := HU60.out
        have := HS60.out
        omega)
      have AFX := Aside0.mk (fun (m' : Nat) => after_in l m' W E.bx u hat.wx HU60.out pi k a rx HPL.out.1 hk ha hrx)
      have AFY := Aside0.mk (fun (m' : Nat) (W' : World) (h : Below W.heap.size W W') => after_in l m' W' E.bw s (hat.wy.below h) HS60.out pj k b ry HPL.out.2 hk hb hry)
      have hk4 : (k : Int) < 4 := by omega
      have hpi60 : (pi : Int) ≤ 60 := by have := HPL.out; have := HU60.out; omega
      have hpj60 : (pj : Int) ≤ 60 := by have := HPL.out; have := HS60.out; omega
      clear hI hat hqk hk hq2 hpi hpj hres ha hb hrx hry hkn hl
      gi_upto_region 12 with (first | (refine ⟨trivial, ?_⟩; gi_at_call 57; (with_reducible refine (AFX.out _).mono ?_); rintro e wa ⟨rfl, HDR⟩; have HBA := Aside0.mk HDR.below; have u2 := pw_cell_below HDR.below t2; have u4 := pw_cell_below HDR.below t4; clear HDR) | (refine ⟨trivial, ?_⟩; gi_at_call 57; (with_reducible refine (AFY.out _ _ HBA.out).mono ?_); rintro e wb ⟨rfl, HDR⟩; have HBB := Aside0.mk (below_step HBA.out HDR.below); clear HDR))
      have u5 := pw_cell_below HBB.out t5
      have HB1 := Aside0.mk (show Below W.heap.size W (wb.alloc (.cells #[.int .i64 ((a : Int) + 1), .int .i64 ((b : Int) + 1)] 110)) from below_alloc HBB.out _)
      obtain ⟨x, y, z, lk⟩ := look_pair (HAT.out.below HB1.out) HQK.out a b HA60.out.1 HA60.out.2
      rw [HKN.out] at lk
      have u6 := pw_cell_below HB1.out t5
      gi_upto_region 14 with (fail)
      clear lk t1 t2 t3 t4 u2 u4 u6 hk4
      have hnb : (wb.alloc (.cells #[.int .i64 ((a : Int) + 1), .int .i64 ((b : Int) + 1)] 110)).heap.size = wb.heap.size + 1 := World.size_alloc _ _
      obtain ⟨W3, hW3⟩ : ∃ W3, (wb.alloc (.cells #[.int .i64 ((a : Int) + 1), .int .i64 ((b : Int) + 1)] 110)).alloc (.cells #[.int .i64 x, .int .i64 y, .string z] 113) = W3 := ⟨_, rfl⟩
      have hb3 : Below W.heap.size W W3 := by rw [← hW3]; exact below_alloc HB1.out _
      have hn3 : W3.heap[wb.heap.size]? = some (.cells #[.int .i64 ((a : Int) + 1), .int .i64 ((b : Int) + 1)] 110 (0, 0)) := by rw [← hW3]; exact blk_alloc (blk_new _ _) _
      rw [hW3]
      obtain ⟨nb, hnbe⟩ : ∃ nb, wb.heap.size = nb := ⟨_, rfl⟩
      rw [hnbe] at hn3 ⊢
      have HB3 := Aside0.mk hb3
      have HN3 := Aside0.mk hn3
      clear hW3 hb3 hn3 HB1 HBB u5 hnb hnbe HBA AFX AFY
      have HSK := Aside0.mk (show rx = ry → (rx = true → kn = true) → DfR u s E w r Ws.heap.size n' q gp pi pj ds (k + 1) W3 from fun h1 h2 => by
        refine ⟨⟨Q2, A2, c2, HAT.out.below HB3.out, HQK.out, HQ2.out, (HP.out _).1, (HP.out _).2.1, ?_⟩, blk_below HIR.out.cp HB3.out, below_step HIR.out.bel HB3.out, HIR.out.mks.below HB3.out, HIR.out.dl⟩
        have h := (HP.out HQ2.out).2.2
        rw [drop4 HK.out, bfsR_skip (a := a) (b := b) (by rw [(HP.out HQ2.out).1]; exact HA.out) (by rw [(HP.out HQ2.out).2.1]; exact HB.out) (by rw [bl_length, bl_length, HRX.out, HRY.out, h1]) (fun e => by rw [HKN.out]; exact h2 (by rw [← HRX.out]; rw [bl_length] at e; exact decide_eq_true e))] at h
        exact h)
      have HKF := Aside0.mk ((keepsOf HB3.out).from Ws.heap.size)
      cases rx <;> cases ry
      · gi_wp2
        exact ⟨HKF.out, HSK.out (by first | rfl | trivial) (by simp)⟩
      · have hat3 := HAT.out.below HB3.out
        have hbd := HQK.out.size (by rw [bl_length]; exact HU60.out) (by rw [bl_length]; exact HS60.out)
        obtain ⟨RW, hRW⟩ : ∃ RW, (Q2[q]'HQ2.out).wd ++ [97 + k] = RW := ⟨_, rfl⟩
        have HRW := Aside0.mk (show r = some RW by
          have h := (HP.out HQ2.out).2.2
          rw [drop4 HK.out, bfsR_stop (a := a) (b := b) (by rw [(HP.out HQ2.out).1]; exact HA.out) (by rw [(HP.out HQ2.out).2.1]; exact HB.out) (by rw [bl_length, bl_length, HRX.out, HRY.out]; decide), hRW] at h
          exact h.symm)
        have HRL := Aside0.mk (show RW.length ≤ 3845 by
          have := HQK.out.wdlen q HQ2.out
          have := HQ2.out
          rw [← hRW]; simp; omega)
        have H0 := Aside0.mk (show DfS u s E w W gp Q2 A2 c2 RW ds q (ltr k) W3 from ⟨hat3, ⟨HQ2.out, by rw [(HP.out _).1, (HP.out _).2.1]; exact blk_below HIR.out.cp HB3.out, by rw [bl_ltr1 HK.out]; exact hRW⟩, below_step HIR.out.bel HB3.out, keepsOf HB3.out, HIR.out.mks.below HB3.out⟩)
        have HGL := Aside0.mk (show w.heap.size ≤ gp from HGW.out)
        clear hat3 hbd hRW HSK HKF
        gi_wp2
        gi_loopw [10] (fun v10 wr => ∃ (m : Nat) (o : ByteArray), v10 = .string o ∧ Aside0 (DfS u s E w W gp Q2 A2 c2 RW ds m o wr)) (fun v10 _ => RW.length + 1 - (strOf v10).size)
        case atStart => exact ⟨q, _, rfl, H0⟩
        case round =>
          clear H0
          obtain ⟨m, o, rfl, HS⟩ := hrel
          obtain ⟨hm, hcp, hrw⟩ := HS.out.hm
          rcases Nat.eq_zero_or_pos m with h0 | h0
          · subst h0
            have hz : (Q2[0]).i = 0 ∧ (Q2[0]).j = 0 ∧ (Q2[0]).wd = [] := by
              obtain ⟨t, ht, _⟩ := HQK.out.hd
              simp [ht, root]
            rw [hz.1, hz.2.1] at hcp
            rw [hz.2.2] at hrw
            have c1 : wr.cell? ⟨gp, 0, none⟩ = some (.int .i64 0) := (blk_cell hcp 0).trans rfl
            have c2 : wr.cell? ⟨gp, 1, none⟩ = some (.int .i64 0) := (blk_cell hcp 1).trans rfl
            obtain ⟨o0, ho0⟩ := HS.out.at_.cr
            have c3 : wr.cell? ⟨E.gr, 0, none⟩ = some (.string o0) := (blk_cell ho0 0).trans rfl
            have c4 := blk_frozen ho0 0
            have HX := Aside0.mk (show DfX E w r Ws.heap.size ds (wr.setCell ⟨E.gr, 0, none⟩ (.string o)) from ⟨⟨o, HS.out.at_.setR o, by rw [HRW.out]; exact hrw⟩, HS.out.bel.setCell HS.out.at_.lo_.2.2.1 _, HS.out.mks.keepsOthers (KeepsOthers.setCell _ _ _), HIR.out.dl⟩)
            have HKO := Aside0.mk ((HS.out.ko.trans (KeepsOthers.setCell wr ⟨E.gr, 0, none⟩ (.string o))).from Ws.heap.size)
            clear hz hcp hrw ho0 hm
            gi_wp2
            exact ⟨HKO.out, rfl, HX.out⟩
          · obtain ⟨mn, mf, m1, _, m3⟩ := HS.out.at_.mp
            obtain ⟨m', c', h', hc4, hwd, hf⟩ := m3.1 m hm h0
            have hle := HQK.out.le (List.getElem_mem hm)
            have hle2 : 1 ≤ (Q2[m]).i := by
              obtain ⟨t, ht, h2⟩ := HQK.out.hd
              have e : ∀ (Q : List Ent) (h : m < Q.length), Q = root :: t → 1 ≤ (Q[m]).i := by
                rintro Q h rfl
                cases m with
                | zero => cases h0
                | succ m => exact (h2 _ (List.getElem_mem (by simpa using h))).1
              exact e Q2 hm ht
            rw [bl_length, bl_length] at hle
            obtain ⟨im, him⟩ : ∃ i, (Q2[m]).i = i := ⟨_, rfl⟩
            obtain ⟨jm, hjm⟩ : ∃ i, (Q2[m]).j = i := ⟨_, rfl⟩
            obtain ⟨i2, hi2⟩ : ∃ i, (Q2[m']'(by omega)).i = i := ⟨_, rfl⟩
            obtain ⟨j2, hj2⟩ : ∃ i, (Q2[m']'(by omega)).j = i := ⟨_, rfl⟩
            have HST := Aside0.mk (HS.out.step (m' := m') (o' := ltr c' ++ o) HGL.out (by omega) (by rw [bl_append, bl_ltr1 hc4, ← List.append_assoc, ← hwd]; exact hrw))
            rw [hi2, hj2] at HST
            rw [him, hjm] at hcp
            rw [him, hjm, hi2, hj2] at hf
            rw [him] at hle hle2
            rw [hjm] at hle
            have hsz1 : o.size < RW.length := by rw [← hrw, List.length_append, hwd, List.length_append, bl_length]; simp only [List.length_cons, List.length_nil]; omega
            have HSZ := Aside0.mk hsz1
            have lk : (Instr.lookup 108 (.map (some E.B)) (.agg #[.int .i64 (im : Int), .int .i64 (jm : Int)]) false).run Try.prog wr = .ok (stepV i2 j2 (ltr c')) wr := by
              have h := m1.look (t := 108) (e := 113) keyed110 Try.underlying108 (zero113 wr) (key110 im jm (by have := HU60.out; omega) (by have := HS60.out; omega))
              rw [hf] at h
              exact h
            have c1 : wr.cell? ⟨gp, 0, none⟩ = some (.int .i64 im) := (blk_cell hcp 0).trans rfl
            have c2 : wr.cell? ⟨gp, 1, none⟩ = some (.int .i64 jm) := (blk_cell hcp 1).trans rfl
            have c3 : wr.cell? ⟨E.gm, 0, none⟩ = some (.map (some E.B)) := (blk_cell HS.out.at_.cm 0).trans rfl
            have c4 := blk_frozen hcp 0
            have c5 := blk_frozen hcp 1
            have fd0 := field113_0 i2 j2 (ltr c')
            have fd1 := field113_1 i2 j2 (ltr c')
            have hi0 : im ≠ 0 := by omega
            have hi1 : ((im : Int) == 0) = false := by simpa using hi0
            have hsz : (ltr c').size + o.size ≤ 9223372036854775807 := by have := HRL.out; show 1 + o.size ≤ _; omega
            clear him hjm hi2 hj2 hf hle hle2 hwd hm hcp hrw m1 m3 hsz1 hc4
            gi_wp2
            refine ⟨⟨m', _, rfl, HST⟩, ?_⟩
            have e : (ltr c' ++ o).size = 1 + o.size := by rw [ByteArray.size_append]; rfl
            have := HSZ.out
            show RW.length + 1 - (ltr c' ++ o).size < RW.length + 1 - o.size
            omega
      · have hat3 := HAT.out.below HB3.out
        have hbd := HQK.out.size (by rw [bl_length]; exact HU60.out) (by rw [bl_length]; exact HS60.out)
        obtain ⟨RW, hRW⟩ : ∃ RW, (Q2[q]'HQ2.out).wd ++ [97 + k] = RW := ⟨_, rfl⟩
        have HRW := Aside0.mk (show r = some RW by
          have h := (HP.out HQ2.out).2.2
          rw [drop4 HK.out, bfsR_stop (a := a) (b := b) (by rw [(HP.out HQ2.out).1]; exact HA.out) (by rw [(HP.out HQ2.out).2.1]; exact HB.out) (by rw [bl_length, bl_length, HRX.out, HRY.out]; decide), hRW] at h
          exact h.symm)
        have HRL := Aside0.mk (show RW.length ≤ 3845 by
          have := HQK.out.wdlen q HQ2.out
          have := HQ2.out
          rw [← hRW]; simp; omega)
        have H0 := Aside0.mk (show DfS u s E w W gp Q2 A2 c2 RW ds q (ltr k) W3 from ⟨hat3, ⟨HQ2.out, by rw [(HP.out _).1, (HP.out _).2.1]; exact blk_below HIR.out.cp HB3.out, by rw [bl_ltr1 HK.out]; exact hRW⟩, below_step HIR.out.bel HB3.out, keepsOf HB3.out, HIR.out.mks.below HB3.out⟩)
        have HGL := Aside0.mk (show w.heap.size ≤ gp from HGW.out)
        clear hat3 hbd hRW HSK HKF
        gi_wp2
        gi_loopw [10] (fun v10 wr => ∃ (m : Nat) (o : ByteArray), v10 = .string o ∧ Aside0 (DfS u s E w W gp Q2 A2 c2 RW ds m o wr)) (fun v10 _ => RW.length + 1 - (strOf v10).size)
        case atStart => exact ⟨q, _, rfl, H0⟩
        case round =>
          clear H0
          obtain ⟨m, o, rfl, HS⟩ := hrel
          obtain ⟨hm, hcp, hrw⟩ := HS.out.hm
          rcases Nat.eq_zero_or_pos m with h0 | h0
          · subst h0
            have hz : (Q2[0]).i = 0 ∧ (Q2[0]).j = 0 ∧ (Q2[0]).wd = [] := by
              obtain ⟨t, ht, _⟩ := HQK.out.hd
              simp [ht, root]
            rw [hz.1, hz.2.1] at hcp
            rw [hz.2.2] at hrw
            have c1 : wr.cell? ⟨gp, 0, none⟩ = some (.int .i64 0) := (blk_cell hcp 0).trans rfl
            have c2 : wr.cell? ⟨gp, 1, none⟩ = some (.int .i64 0) := (blk_cell hcp 1).trans rfl
            obtain ⟨o0, ho0⟩ := HS.out.at_.cr
            have c3 : wr.cell? ⟨E.gr, 0, none⟩ = some (.string o0) := (blk_cell ho0 0).trans rfl
            have c4 := blk_frozen ho0 0
            have HX := Aside0.mk (show DfX E w r Ws.heap.size ds (wr.setCell ⟨E.gr, 0, none⟩ (.string o)) from ⟨⟨o, HS.out.at_.setR o, by rw [HRW.out]; exact hrw⟩, HS.out.bel.setCell HS.out.at_.lo_.2.2.1 _, HS.out.mks.keepsOthers (KeepsOthers.setCell _ _ _), HIR.out.dl⟩)
            have HKO := Aside0.mk ((HS.out.ko.trans (KeepsOthers.setCell wr ⟨E.gr, 0, none⟩ (.string o))).from Ws.heap.size)
            clear hz hcp hrw ho0 hm
            gi_wp2
            exact ⟨HKO.out, rfl, HX.out⟩
          · obtain ⟨mn, mf, m1, _, m3⟩ := HS.out.at_.mp
            obtain ⟨m', c', h', hc4, hwd, hf⟩ := m3.1 m hm h0
            have hle := HQK.out.le (List.getElem_mem hm)
            have hle2 : 1 ≤ (Q2[m]).i := by
              obtain ⟨t, ht, h2⟩ := HQK.out.hd
              have e : ∀ (Q : List Ent) (h : m < Q.length), Q = root :: t → 1 ≤ (Q[m]).i := by
                rintro Q h rfl
                cases m with
                | zero => cases h0
                | succ m => exact (h2 _ (List.getElem_mem (by simpa using h))).1
              exact e Q2 hm ht
            rw [bl_length, bl_length] at hle
            obtain ⟨im, him⟩ : ∃ i, (Q2[m]).i = i := ⟨_, rfl⟩
            obtain ⟨jm, hjm⟩ : ∃ i, (Q2[m]).j = i := ⟨_, rfl⟩
            obtain ⟨i2, hi2⟩ : ∃ i, (Q2[m']'(by omega)).i = i := ⟨_, rfl⟩
            obtain ⟨j2, hj2⟩ : ∃ i, (Q2[m']'(by omega)).j = i := ⟨_, rfl⟩
            have HST := Aside0.mk (HS.out.step (m' := m') (o' := ltr c' ++ o) HGL.out (by omega) (by rw [bl_append, bl_ltr1 hc4, ← List.append_assoc, ← hwd]; exact hrw))
            rw [hi2, hj2] at HST
            rw [him, hjm] at hcp
            rw [him, hjm, hi2, hj2] at hf
            rw [him] at hle hle2
            rw [hjm] at hle
            have hsz1 : o.size < RW.length := by rw [← hrw, List.length_append, hwd, List.length_append, bl_length]; simp only [List.length_cons, List.length_nil]; omega
            have HSZ := Aside0.mk hsz1
            have lk : (Instr.lookup 108 (.map (some E.B)) (.agg #[.int .i64 (im : Int), .int .i64 (jm : Int)]) false).run Try.prog wr = .ok (stepV i2 j2 (ltr c')) wr := by
              have h := m1.look (t := 108) (e := 113) keyed110 Try.underlying108 (zero113 wr) (key110 im jm (by have := HU60.out; omega) (by have := HS60.out; omega))
              rw [hf] at h
              exact h
            have c1 : wr.cell? ⟨gp, 0, none⟩ = some (.int .i64 im) := (blk_cell hcp 0).trans rfl
            have c2 : wr.cell? ⟨gp, 1, none⟩ = some (.int .i64 jm) := (blk_cell hcp 1).trans rfl
            have c3 : wr.cell? ⟨E.gm, 0, none⟩ = some (.map (some E.B)) := (blk_cell HS.out.at_.cm 0).trans rfl
            have c4 := blk_frozen hcp 0
            have c5 := blk_frozen hcp 1
            have fd0 := field113_0 i2 j2 (ltr c')
            have fd1 := field113_1 i2 j2 (ltr c')
            have hi0 : im ≠ 0 := by omega
            have hi1 : ((im : Int) == 0) = false := by simpa using hi0
            have hsz : (ltr c').size + o.size ≤ 9223372036854775807 := by have := HRL.out; show 1 + o.size ≤ _; omega
            clear him hjm hi2 hj2 hf hle hle2 hwd hm hcp hrw m1 m3 hsz1 hc4
            gi_wp2
            refine ⟨⟨m', _, rfl, HST⟩, ?_⟩
            have e : (ltr c' ++ o).size = 1 + o.size := by rw [ByteArray.size_append]; rfl
            have := HSZ.out
            show RW.length + 1 - (ltr c' ++ o).size < RW.length + 1 - o.size
            omega
      · cases kn
        · have hat3 := HAT.out.below HB3.out
          have hbel := below_step HIR.out.bel HB3.out
          have hmks := HIR.out.mks.below HB3.out
          have hcp := blk_below HIR.out.cp HB3.out
          have hau : a < u.size := of_decide_eq_true HRX.out
          have hbs : b < s.size := of_decide_eq_true HRY.out
          have hbd := HQK.out.size (by rw [bl_length]; exact HU60.out) (by rw [bl_length]; exact HS60.out)
          obtain ⟨mn, mf, m1, m2, m3⟩ := hat3.mp
          have hky : keyOf Try.prog 110 (.agg #[.int .i64 ((a : Int) + 1), .int .i64 ((b : Int) + 1)]) = some (pairK (a + 1) (b + 1)) := key110 (a + 1) (b + 1) (by have := HA60.out; omega) (by have := HA60.out; omega)
          obtain ⟨W5, hst, m4, g5⟩ := m1.store (t := 108) (e := 113) keyed110 Try.underlying108 (by have := HQ2.out; unfold maxLen; omega) (val := stepV pi pj (ltr k)) hky
          have hb113 : ∀ W : World, (Instr.build 113 #[(0, .agg #[.int .i64 (pi : Int), .int .i64 (pj : Int)]), (1, .string (ltr k))]).run Try.prog W = .ok (stepV pi pj (ltr k)) W := fun W => build113 _ _ _ W
          have q1 : W3.cell? ⟨E.gm, 0, none⟩ = some (.map (some E.B)) := (blk_cell hat3.cm 0).trans rfl
          have q2 : W3.cell? ⟨nb, 0, none⟩ = some (.int .i64 ((a : Int) + 1)) := (blk_cell HN3.out 0).trans rfl
          have q3 : W3.cell? ⟨nb, 1, none⟩ = some (.int .i64 ((b : Int) + 1)) := (blk_cell HN3.out 1).trans rfl
          have q4 : W3.cell? ⟨gp, 0, none⟩ = some (.int .i64 pi) := (blk_cell hcp 0).trans rfl
          have q5 : W3.cell? ⟨gp, 1, none⟩ = some (.int .i64 pj) := (blk_cell hcp 1).trans rfl
          have ne5 : ∀ {g : Nat} {cs : Array Value} {t : TypeId}, W3.heap[g]? = some (.cells cs t (0, 0)) → W5.heap[g]? = some (.cells cs t (0, 0)) := fun e => blk_grown e g5 (fun e2 => by injection e2 with e2; exact m1.ne e e2.symm)
          have n5 := ne5 HN3.out
          have cq5 := ne5 hat3.cq
          have r1 : W5.cell? ⟨nb, 0, none⟩ = some (.int .i64 ((a : Int) + 1)) := (blk_cell n5 0).trans rfl
          have r2 : W5.cell? ⟨nb, 1, none⟩ = some (.int .i64 ((b : Int) + 1)) := (blk_cell n5 1).trans rfl
          have r3 : W5.cell? ⟨E.gq, 0, none⟩ = some (.slice A2 Q2.length c2) := (blk_cell cq5 0).trans rfl
          gi_upto_region 21 with (fail)
          have hr5 : Kd.R k88 110 W5 w.heap.size (fun x => x ≠ gp) (.slice A2 Q2.length c2) (Q2.map pairQ) := by
            refine Kd.R_mono (Kd.R_move (Kd.R_bound hat3.row) (fun k hkk => ?_)) (fun k hkk => hkk.1)
            obtain ⟨_, _, _, q, _, cells, hc⟩ := hkk
            rw [hc, ne5 hc]
          have HB5 := Aside0.mk (hbel.grown g5 hbel.size (fun j e => by injection e with e; subst e; exact hat3.lo_.2.2.2.1))
          have KEY := Aside0.mk (fun i j ops rest o act R => app_pair (w := w) (W := W5) (base := w.heap.size) (ok := fun x => x ≠ gp) (A := A2) (c := c2) (n := Q2.length) (xs := Q2.map pairQ) (x := ⟨(a : Int) + 1, (b : Int) + 1⟩) (by simp) hr5 HB5.out HB5.out.size (fun x hx => by have := HGT.out; have := HIR.out; have := blk_lt hcp; have := g5.size; omega) (by simp; omega) i j ops rest o act R)
          have HAT3 := Aside0.mk hat3
          have HM4 := Aside0.mk (show ∃ n f, MapIs Try.prog 110 W5 E.B n f ∧ n ≤ Q2.length + 1 ∧ MapOf (Q2 ++ [⟨a + 1, b + 1, (Q2[q]'HQ2.out).wd ++ [97 + k]⟩]) f from ⟨mn + 1, _, m4, by omega, by
            have h := MapOf.push m3 HQK.out (by rw [bl_length]; exact HU60.out) (by rw [bl_length]; exact HS60.out) HQ2.out HK.out (i := a + 1) (j := b + 1) (by have := HA60.out; omega) (by have := HA60.out; omega) HKN.out
            rw [(HP.out _).1, (HP.out _).2.1] at h
            exact h⟩)
          have HG5 := Aside0.mk g5
          have HCP := Aside0.mk hcp
          have HC5 := Aside0.mk cq5
          have HR5 := Aside0.mk hr5
          have HMK := Aside0.mk hmks
          have HAU := Aside0.mk hau
          have HBS := Aside0.mk hbs
          clear hat3 hbel hmks hcp hau hbs hbd mn mf m1 m2 m3 hky hst m4 g5 hb113 q1 q2 q3 q4 q5 ne5 n5 cq5 hr5
          refine region_in (by kernel_rfl) (by rintro ⟨a_, w_, h_⟩; exact h_) ?_
          go_wp2_with (at_builtin; refine KEY.out _ _ _ _ _ _ _ rfl rfl rfl rfl ?_; intro A6 c6 w6 h1 h2 h3; have HR6 := Aside0.mk h1; have HB6 := Aside0.mk h2; have HG6 := Aside0.mk h3; have cq6 := blk_grown HC5.out h3 (Kd.R_ne HR5.out HC5.out (by decide)); have s1 : w6.cell? ⟨E.gq, 0, none⟩ = some (.slice A2 Q2.length c2) := (blk_cell cq6 0).trans rfl; have s2 := blk_frozen cq6 0; clear h1 h2 h3 cq6)
          obtain ⟨p1, p2⟩ := HAT3.out.push (W5 := W5) (W6 := w6) (A' := A6) (c' := c6) (new := ⟨a + 1, b + 1, (Q2[q]'HQ2.out).wd ++ [97 + k]⟩) HCP.out HM4.out HG5.out (by simpa [pairQ] using HR6.out) HG6.out
          have k5 : KeepsFrom Ws.heap.size W3 W5 := KeepsFrom.of_grownBy HG5.out (fun j e => by injection e with e; subst e; exact HTB.out)
          have k6 : KeepsOthers W5 w6 := KeepsOthers.of_grownBy HG6.out (fun j o e ho => by obtain ⟨cells, hc⟩ := Kd.R_typed HR5.out j e; rw [hc] at ho; injection ho with ho; subst ho; rfl)
          have k7 := KeepsOthers.setCell w6 ⟨E.gq, 0, none⟩ (.slice A6 (Q2.length + 1) c6)
          have mk5 : Marks w.heap.size W5 ds := HMK.out.keeps (fun D _ h _ => by
            refine (HG5.out.block D (Array.getElem?_eq_some_iff.1 h).1 (fun e => ?_)).trans h
            injection e with e
            subst e
            obtain ⟨_, _, m, _⟩ := HAT3.out.mp
            obtain ⟨_, ⟨_, _, hm, _⟩, _⟩ := m.ex
            rw [h] at hm
            cases hm)
          have e1 : ∀ h, (Q2 ++ [(⟨a + 1, b + 1, (Q2[q]'HQ2.out).wd ++ [97 + k]⟩ : Ent)])[q]'h = Q2[q]'HQ2.out := fun h => List.getElem_append_left HQ2.out
          refine ⟨HKF.out.trans (k5.trans ((k6.trans k7).from _)), ⟨⟨_, A6, c6, p1, HQK.out.push HQ2.out HK.out ⟨by omega, by rw [bl_length]; exact HAU.out⟩ ⟨by omega, by rw [bl_length]; exact HBS.out⟩ HKN.out, by have := HQ2.out; simp; omega, ?_, ?_, ?_⟩, p2, HB6.out.setCell HAT3.out.lo_.2.2.2.2.2 _, (mk5.keepsOthers k6).keepsOthers k7, HIR.out.dl⟩⟩
          · rw [e1]; exact (HP.out _).1
          · rw [e1]; exact (HP.out _).2.1
          · rw [e1]
            have h := (HP.out HQ2.out).2.2
            rw [drop4 HK.out, bfsR_push (a := a) (b := b) (by rw [(HP.out HQ2.out).1]; exact HA.out) (by rw [(HP.out HQ2.out).2.1]; exact HB.out) (by rw [bl_length]; exact HAU.out) (by rw [bl_length]; exact HBS.out) HKN.out] at h
            exact h
        · gi_wp2
          exact ⟨HKF.out, HSK.out (by first | rfl | trivial) (by simp)⟩
    case done =>
      clear HPI HLT hgp
      intro D W hD hI hKd
      obtain ⟨Q2, A2, c2, hat, hqk, hq2, hpi, hpj, hres⟩ := hI.ex
      have HL := Aside0.mk (show DfAt u s E w.heap.size (fun _ => True) Q2 A2 c2 W ∧ Below w.heap.size w W ∧ Marks w.heap.size W ({ target := .collected D, args := #[] } :: ds) ∧ QOk (bl u) (bl s) Q2 ∧ n' + (q + 1) = 3845 ∧ q + 1 ≤ Q2.length ∧ bfs (bl u) (bl s) n' (q + 1) Q2 = r from
        ⟨hat.okMono (fun _ _ _ => trivial), hI.bel, hI.mks.cons (by have := HT.out; omega) hKd (fun D' hD' e => by have := hI.dl D' hD'; omega), hqk, by have := HI.out.2.2.2.2.1; omega, hq2, hres⟩)
      have HN := Aside0.mk hn'
      have hqb : (q : Int) + 1 ≤ 3845 := by have := HL.out.2.2.2.2.1; omega
      clear hat hqk hq2 hpi hpj hres hI hKd hn'
      go_wp2
      refine Handed.intro n' (by rw [HN.out]; exact Nat.lt_succ_self _) ?_
      go_step
      refine ⟨q + 1, Q2, A2, c2, { target := .collected D, args := #[] } :: ds, ?_⟩
      exact ex_act HL rfl
    case stop =>
      clear HPI HLT hgp
      rintro D e c W hD hc ⟨rfl, hX⟩ hKd
      obtain ⟨o, h1, h2⟩ := hX.ex
      have HO := Aside0.mk h1
      have HO2 := Aside0.mk h2
      have HMK := Aside0.mk (hX.mks.cons (by have := HT.out; omega) hKd (fun D' hD' e => by have := hX.dl D' hD'; omega))
      have HBX2 := Aside0.mk hX.bel
      clear h1 h2 hX hKd hc
      gi_wp2
      refine leaves_marks _ _ HMK.out (fun W' hs hc hb => ⟨.string o, res54 _ _ E.gr _ rfl (hc _ _ HO.out rfl), o, HO2.out, rfl, HBX2.out.trans hb⟩) HBX2.out.size
  · have hltI : ¬ ((q : Int) < (Q.length : Int)) := by omega
    have hlt2 : decide (q < Q.length) = false := decide_eq_false hlt
    obtain ⟨o, ho⟩ := HI.out.1.cr
    have hr1 : wr.cell? ⟨E.gr, 0, none⟩ = some (.string o) := (blk_cell ho 0).trans rfl
    have hr2 := blk_frozen ho 0
    have HST := Aside0.mk (HI.out.1.setR ⟨#[]⟩)
    have HLT := Aside0.mk hlt
    clear hlt ho
    go_wp2
    have hbs : Below w.heap.size w (wr.setCell ⟨E.gr, 0, none⟩ (.string ⟨#[]⟩)) := HI.out.2.1.setCell (by show w.heap.size ≤ E.gr; exact HI.out.1.lo_.2.2.1) _
    refine leaves_marks ds _ (HI.out.2.2.1.keepsOthers (KeepsOthers.setCell _ _ _)) (fun W' hs hc hb => ⟨.string ⟨#[]⟩, res54 _ _ E.gr _ rfl (hc _ _ HST.out rfl), ⟨#[]⟩, ?_, rfl, hbs.trans hb⟩) hbs.size
    have h2 := HI.out.2.2.2.2.2.2
    rw [← h2]
    cases n with
    | zero => rfl
    | succ n =>
      unfold bfs
      rw [List.getElem?_eq_none (by have := HLT.out; omega)]
      rfl
end Go.Proofs.Ytagdbadljcongaa.X
end

section
/- thread.Differ, thread.Same. -/
set_option linter.unusedVariables false
set_option linter.unusedSimpArgs false
namespace Go.Proofs.Ytagdbadljcongaa.X
open Go Go.RowKit Go.Proofs.YtagdbadljcongaaW.PrintWords Go.Proofs.YtagdbadljcongaaW.PrintLast Go.Proofs.YtagdbadljcongaaW.PrintMore
theorem toList_inj {a b : ByteArray} (h : a.toList = b.toList) : a = b := by
  rw [ByteArray.toList_eq, ByteArray.toList_eq] at h
  exact Go.WideShapes.bytes_inj h
/-- What Differ returns for two different words. -/
def DrPost (r : Option (List Nat)) (w : World) (e : Ending) (w' : World) : Prop := ∃ o, bl o = r.getD [] ∧ e = .returned (.tuple #[.string o, .int .i64 0]) ∧ Below w.heap.size w w'
set_option maxHeartbeats 4000000 in
set_option maxRecDepth 100000 in
theorem Differ_ok (u s : ByteArray) (w : World) (hu : isW (bl u) = true) (hs : isW (bl s) = true) (hne : u ≠ s) (r : Option (List Nat)) (hr : diffW (bl u) (bl s) = r) : Calls Try.prog 28 #[.string u, .string s] w (DrPost r w) := by
  have HU := Aside0.mk hu
  have HS := Aside0.mk hs
  have HS60 := Aside0.mk (show s.size ≤ 60 by rw [← bl_length]; exact ((isW_iff _).1 hs).1)
  have HU60 := Aside0.mk (show u.size ≤ 60 by rw [← bl_length]; exact ((isW_iff _).1 hu).1)
  have HRR := Aside0.mk hr
  have hq : ¬ u.toList = s.toList := fun e => hne (toList_inj e)
  have hq2 : (u.toList == s.toList) = false := by simpa using hq
  clear hu hs hr
  go_enter Try.func28, Try.ntmps28
  go_wp2_with (first | (go_at_call 48; (with_reducible refine (newWord_yes u _ HU.out).mono ?_); rintro e w1 ⟨rfl, hwd, hb⟩; have HWU := Aside0.mk hwd; have HB := Aside0.mk hb; clear hwd hb) | (go_at_call 48; (with_reducible refine (newWord_yes s _ HS.out).mono ?_); rintro e w2 ⟨rfl, hwd, hb⟩; have HWS := Aside0.mk hwd; have HWX := Aside0.mk (HWU.out.below hb); have HB2 := Aside0.mk hb; clear hwd hb) | (go_at_call 54; (with_reducible refine (differ_any u s _ _ _ HWX.out HWS.out HU60.out HS60.out r HRR.out).mono ?_); rintro e w3 ⟨o, ho, rfl, hb⟩; have HO := Aside0.mk ho; have HB3 := Aside0.mk hb; clear ho hb))
  go_ret2
  exact ⟨o, HO.out, rfl, below_step (below_step HB.out HB2.out) HB3.out⟩
end Go.Proofs.Ytagdbadljcongaa.X
end

section
/- slices.Contains over strings. -/
set_option linter.unusedVariables false
set_option linter.unusedSimpArgs false
namespace Go.Proofs.Ytagdbadljcongaa.X
open Go Go.RowKit Go.Proofs.YtagdbadljcongaaW.PrintWords Go.Proofs.YtagdbadljcongaaW.PrintLast Go.Proofs.YtagdbadljcongaaW.PrintMore
theorem rdOf_nat (l : List ByteArray) (i : Nat) (h : i < l.length) : rdOf ByteArray.empty l (i : Int) = l[i] := by unfold rdOf; simp [List.getD_eq_getElem?_getD, h]
theorem idx_ev (l : List ByteArray) (s : ByteArray) (hl : l.length ≤ 1000000) : ∀ d i, i + d = l.length → ∃ r, slices_Index_string_string.l0 (d + 1) l s (l.length : Int) (i : Int) = some r ∧ (0 ≤ r ↔ s ∈ l.drop i)
  | 0, i, h => by
    refine ⟨-1, ?_, ?_⟩
    · unfold slices_Index_string_string.l0; rw [if_neg (by omega)]
    · rw [List.drop_eq_nil_of_le (by omega)]; simp
  | d + 1, i, h => by
    have hi : i < l.length := by omega
    unfold slices_Index_string_string.l0
    rw [if_pos (by omega), if_pos (by omega), if_pos (by omega), rdOf_nat l i hi, List.drop_eq_getElem_cons hi]
    by_cases e : s.toList = l[i].toList
    · rw [if_pos e]
      exact ⟨_, rfl, iff_of_true (by omega) (by rw [toList_inj e]; exact List.mem_cons_self)⟩
    · rw [if_neg e]
      obtain ⟨r, h1, h2⟩ := idx_ev l s hl d (i + 1) (by omega)
      rw [show wrap64 ((i : Int) + 1) = ((i + 1 : Nat) : Int) by rw [IntWalk.wrap64_in _ (by omega)]; omega]
      refine ⟨r, h1, h2.trans ?_⟩
      rw [List.mem_cons]
      exact ⟨.inr, fun h => h.resolve_left (fun e2 => e (by rw [e2]))⟩
theorem cont_any (A : Option Addr) (c : Nat) (l : List ByteArray) (s : ByteArray) (w : World) (hC : Kd.C Kd.string w A l.length l) (hc : l.length ≤ c) (hl : l.length ≤ 1000000) (v : Bool) (hv : v = true ↔ s ∈ l) : Calls Try.prog 65 #[.slice A l.length c, .string s] w fun e w' => e = .returned (.bool v) ∧ Drawn0 w w' := by
  obtain ⟨r, h1, h2⟩ := idx_ev l s hl l.length 0 (by omega)
  rw [List.drop_zero] at h2
  refine slices_Contains_string_string.calls (l.length + 1) A c l s _ w hC hc ?_
  have h3 : slices_Index_string_string.f (l.length + 1) l s = some r := h1
  unfold slices_Contains_string_string.f
  rw [h3]
  show some (decide (r ≥ 0)) = some v
  congr 1
  rw [Bool.eq_iff_iff, decide_eq_true_iff, hv]
  exact h2
end Go.Proofs.Ytagdbadljcongaa.X
end

section
/- 'm[k] += x': an entry is made or found, then its value is stored. -/
set_option linter.unusedVariables false
set_option linter.unusedSimpArgs false
namespace Go.Proofs.Ytagdbadljcongaa.X
open Go Go.RowKit Go.Proofs.YtagdbadljcongaaW.PrintWords Go.Proofs.YtagdbadljcongaaW.PrintLast Go.Proofs.YtagdbadljcongaaW.PrintMore
open Go.ChangeShapes Go.WideShapes Go.MapKept Go.ChangeMaps Go.WideElems
section
variable {P : Program} {kt : TypeId} {w w' : World} {B n : Nat} {f : KMap}
theorem entry_is_update {t k e : TypeId} {es : Array MapEntry} {clock b : Nat} (K : WideMaps.KeyLaw P k) (ht : P.underlying t = some (.map k e)) {z : Value} (hz : ∀ u : World, (zeroValue e).run P u = .ok z u) (hb : w.heap[b]? = some (.map es clock))
    (F : ∀ x ∈ es.toList, ∃ l, keyOf P k x.key = some l) {key : Value} {kl : Lit} (hkey : keyOf P k key = some kl) :
    ∃ (v0 st : Value) (W1 : World), (Instr.mapEntry t (.map (some b)) key).run P w = .ok (.tuple #[v0, st]) W1 ∧ (Instr.mapUpdate t (.map (some b)) key v0).run P w = .ok () W1 ∧ (Instr.lookup t (.map (some b)) key false).run P w = .ok v0 w := by
  rcases K.find w hkey es.toList F with ⟨h1, h2⟩ | ⟨j, e0, h1, h2, h3⟩
  · refine ⟨z, goInt clock, setBlock w b (.map (es.push ⟨key, z, clock⟩) (clock + 1)), ?_, ?_, ?_⟩
    · simp [Instr.mapEntry, run_underlying ht, MapKept.run_getObj_map hb, K.check w false hkey, h1, hz, MapKept.run_setObj_map _ hb, Result.andThen, setBlock]
    · simp [Instr.mapUpdate, run_underlying ht, MapKept.run_getObj_map hb, K.check w false hkey, h1, MapKept.run_setObj_map _ hb, Result.andThen, setBlock]
    · simp [Instr.lookup, run_underlying ht, MapKept.run_getObj_map hb, K.check w es.isEmpty hkey, h1, hz, Result.andThen]
  · have hj : es[j]? = some e0 := by simpa using h2
    refine ⟨e0.val, goInt e0.born, setBlock w b (.map (es.modify j fun e => { e with key := key }) clock), ?_, ?_, ?_⟩
    · simp [Instr.mapEntry, run_underlying ht, MapKept.run_getObj_map hb, K.check w false hkey, h1, hj, h3, K.stays w hkey, MapKept.run_setObj_map _ hb, Result.andThen, setBlock]
    · have hmod : es.modify j (fun e => { e with key := key, val := e0.val }) = es.modify j (fun e => { e with key := key }) := by
        apply Array.ext'
        rw [Array.toList_modify, Array.toList_modify, modify_eq_set _ _ _ _ h2, modify_eq_set _ _ _ _ h2]
      simp [Instr.mapUpdate, run_underlying ht, MapKept.run_getObj_map hb, K.check w false hkey, h1, hj, h3, K.stays w hkey, MapKept.run_setObj_map _ hb, Result.andThen, setBlock]
      first | rw [hmod] | simp [hmod]
    · simp [Instr.lookup, run_underlying ht, MapKept.run_getObj_map hb, K.check w es.isEmpty hkey, h1, hz, Result.andThen]
/-- An entry is made or found: then its value is stored, in whatever world the map's block lies as it was left. -/
theorem MapIs.entry (h : MapIs P kt w B n f) {t e : TypeId} (K : WideMaps.KeyLaw P kt) (ht : P.underlying t = some (.map kt e)) (hn : n < maxLen) {z : Value} (hz : ∀ u : World, (zeroValue e).run P u = .ok z u) {key : Value} {kl : Lit} (hkey : keyOf P kt key = some kl) :
    ∃ (st : Value) (W1 : World), (Instr.mapEntry t (.map (some B)) key).run P w = .ok (.tuple #[(f kl).getD z, st]) W1 ∧ MapIs P kt W1 B (n + 1) (f.put kl ((f kl).getD z)) ∧ w.grownBy W1 (some B) ∧
      ∀ val : Value, ∃ W2, (Instr.entryStore t (.map (some B)) st val).run P W1 = .ok () W2 ∧ MapIs P kt W2 B (n + 1) (f.put kl val) ∧ w.grownBy W2 (some B) := by
  have hK := Maps.Keyed.of_law K
  obtain ⟨D, ⟨es, clock, hb, F, hs, hD⟩, hh⟩ := h.ex
  obtain ⟨v0, st, W1, r1, r2, r3⟩ := entry_is_update K ht hz hb F.keys hkey
  obtain ⟨v0', st', es1, clock1, s1, _, s3⟩ := entry_then_store K ht hz hb F hkey
  rw [r1] at s1
  injection s1 with s1 s2
  injection s1 with s1
  simp at s1
  obtain ⟨rfl, rfl⟩ := s1
  have hl := h.look hK ht (hz w) hkey
  rw [r3] at hl
  injection hl with hl
  obtain ⟨W', u1, u2, u3⟩ := h.store hK ht hn hkey (val := v0)
  rw [r2] at u1
  injection u1 with _ u1
  subst u1
  rw [hl] at r1 u2
  refine ⟨_, W1, r1, u2, u3, fun val => ?_⟩
  have hbl : W1.heap[B]? = some (.map es1 clock1) := by
    rw [s2]
    have hlt : B < w.heap.size := (Array.getElem?_eq_some_iff.1 hb).1
    simp [setBlock, hlt]
  obtain ⟨es', clock', t1, t2⟩ := s3 W1 val hbl
  obtain ⟨W'', x1, x2, x3⟩ := h.store hK ht hn hkey (val := val)
  rw [t2] at x1
  injection x1 with _ x1
  have e : setBlock W1 B (.map es' clock') = W'' := by
    rw [← x1, s2]
    simp [setBlock]
  exact ⟨W'', by rw [t1, e], x2, x3⟩
end
end Go.Proofs.Ytagdbadljcongaa.X
end

section
/- thread.isOver: through strings.ContainsFunc, IndexFunc and indexFunc with its closure, at a word. -/
set_option linter.unusedVariables false
set_option linter.unusedSimpArgs false
namespace Go.Proofs.Ytagdbadljcongaa.X
open Go Go.RowKit Go.Proofs Go.Proofs.YtagdbadljcongaaW.PrintWords Go.Proofs.YtagdbadljcongaaW.PrintLast Go.Proofs.YtagdbadljcongaaW.PrintMore
/-- Whether a word has the first k letters only. -/
def ovr (l : List Nat) (k : Nat) : Bool := l.all fun b => decide (b < 97 + k)
set_option maxHeartbeats 2000000 in
set_option maxRecDepth 100000 in
theorem over_yes (g d k : Nat) (W : World) (hg : W.cell? ⟨g, 0, none⟩ = some (.int .i64 k)) (hd : d < 4) (hk : 1 ≤ k) (hk4 : k ≤ 4) (h : d < k) : Calls Try.prog 69 #[.int .i32 (97 + (d : Int)), .pointer (some ⟨g, 0, none⟩)] W fun e w' => e = .returned (.bool false) ∧ Drawn0 W w' := by
  have h1 : (0 : Int) ≤ (d : Int) := by omega
  have h2 : (d : Int) < 4 := by omega
  have h3 : (d : Int) ≤ (k : Int) - 1 := by omega
  have h4 : (k : Int) ≤ 4 := by omega
  have h5 : (97 : Int) + (d : Int) - 97 = (d : Int) := by omega
  clear hd hk hk4 h
  go_enter Try.func69, Try.ntmps69
  go_wp2_with (go_at_call 49; (with_reducible refine (within_y _ _ _ _ (by omega) (by omega)).mono ?_); rintro e w1 ⟨rfl, HD⟩; have HDD := Aside0.mk HD; clear HD)
  go_ret
  exact ⟨rfl, HDD.out⟩
set_option maxHeartbeats 2000000 in
set_option maxRecDepth 100000 in
theorem over_no (g d k : Nat) (W : World) (hg : W.cell? ⟨g, 0, none⟩ = some (.int .i64 k)) (hd : d < 4) (hk : 1 ≤ k) (hk4 : k ≤ 4) (h : ¬ d < k) : Calls Try.prog 69 #[.int .i32 (97 + (d : Int)), .pointer (some ⟨g, 0, none⟩)] W fun e w' => e = .returned (.bool true) ∧ Drawn0 W w' := by
  have h1 : (0 : Int) ≤ (d : Int) := by omega
  have h2 : (d : Int) < 4 := by omega
  have h3 : ¬ ((0 : Int) ≤ (d : Int) ∧ (d : Int) ≤ (k : Int) - 1) := by omega
  have h4 : (k : Int) ≤ 4 := by omega
  have h5 : (97 : Int) + (d : Int) - 97 = (d : Int) := by omega
  have H3 := Aside0.mk h3
  clear hd hk hk4 h h3
  go_enter Try.func69, Try.ntmps69
  go_wp2_with (go_at_call 49; (with_reducible refine (within_n _ _ _ _ H3.out).mono ?_); rintro e w1 ⟨rfl, HD⟩; have HDD := Aside0.mk HD; clear HD)
  go_ret
  exact ⟨rfl, HDD.out⟩
set_option maxHeartbeats 4000000 in
set_option maxRecDepth 1000000 in
theorem idxf (s : ByteArray) (g k : Nat) (w : World) (hs : isW (bl s) = true) (hg : w.cell? ⟨g, 0, none⟩ = some (.int .i64 k)) (hgl : g < w.heap.size) (hk : 1 ≤ k) (hk4 : k ≤ 4) :
    Calls Try.prog 92 #[.string s, .func (.func 69) #[] #[.pointer (some ⟨g, 0, none⟩)], .bool true] w fun e w' => ∃ r : Int, e = .returned (.int .i64 r) ∧ Aside0 (-1 ≤ r ∧ r ≤ 60 ∧ (0 ≤ r ↔ ovr (bl s) k = false)) ∧ Below w.heap.size w w' := by
  have HS := Aside0.mk hs
  have HG := Aside0.mk hg
  have HGL := Aside0.mk hgl
  have HK := Aside0.mk hk
  have HK4 := Aside0.mk hk4
  have hs60 : s.size ≤ 60 := by rw [← bl_length]; exact ((isW_iff _).1 hs).1
  have HS60 := Aside0.mk hs60
  clear hs hg hgl hk hk4 hs60
  go_enter Try.func92, Try.ntmps92
  go_wp2
  go_loopg [] s.size (fun gf wx => ∃ pos : Nat, Aside0 (wx.heap[w.heap.size]? = some (.stringIter s pos)) ∧ Aside0 (Below w.heap.size w wx) ∧ Aside0 (∀ j, j < pos → ∀ h : j < (bl s).length, (bl s)[j] < 97 + k) ∧ Aside0 (pos + gf = s.size))
  case atStart => exact ⟨0, ⟨World.iter_heap w s 0⟩, ⟨(Below.refl _ w).alloc (Nat.le_refl _) _⟩, ⟨by omega⟩, ⟨by omega⟩⟩
  case round =>
    obtain ⟨pos, HIT, HBW, HAL, HFU⟩ := hrel
    by_cases hps : pos < s.size
    · obtain ⟨g', rfl⟩ : ∃ g', gk = g' + 1 := ⟨gk - 1, by have := HFU.out; omega⟩
      obtain ⟨d, hd, hd4⟩ : ∃ c, (bl s)[pos]'(by rw [bl_length]; exact hps) = 97 + c ∧ c < 4 := by
        have := ((isW_iff (bl s)).1 HS.out).2 _ (List.getElem_mem (by rw [bl_length]; exact hps))
        exact ⟨(bl s)[pos]'(by rw [bl_length]; exact hps) - 97, by omega, by omega⟩
      have hdec : Utf8.decode s pos = (97 + d, 1) := by
        have h2 : (s[pos]'hps).toNat = 97 + d := by rw [← bl_get s pos hps]; exact hd
        rw [decode_ascii s pos hps (by omega), h2]
      have hnx : ∀ ty, (Instr.next (.pointer (some ⟨w.heap.size, 0, none⟩)) true ty).run Try.prog wr = _ := fun ty => Lib.run_next_any_at wr w.heap.size s pos ty HIT.out hps
      rw [hdec] at hnx
      have hit2 := Lib.iterAt_heap wr w.heap.size s pos (pos + 1) HIT.out
      have hbw2 := Lib.below_iterAt HBW.out (k := w.heap.size) (Nat.le_refl _) s (pos + 1)
      obtain ⟨W, hWd⟩ : ∃ W, wr.iterAt w.heap.size s (pos + 1) = W := ⟨_, rfl⟩
      rw [hWd] at hnx hit2 hbw2
      have e97 : ((97 + d : Nat) : Int) = 97 + (d : Int) := by simp
      simp only [e97] at hnx
      have HIT2 := Aside0.mk hit2
      have HBW2 := Aside0.mk hbw2
      have HPS := Aside0.mk hps
      have HD := Aside0.mk (show ∀ h : pos < (bl s).length, (bl s)[pos] = 97 + d from fun _ => hd)
      have HD4 := Aside0.mk hd4
      have hcg : W.cell? ⟨g, 0, none⟩ = some (.int .i64 k) := (hbw2.cell (p := ⟨g, 0, none⟩) HGL.out).trans HG.out
      have HCG := Aside0.mk hcg
      clear hdec hit2 hbw2 hWd hps hd hd4 e97 hcg
      by_cases hdk : d < k
      · have HDK := Aside0.mk hdk
        clear hdk
        go_wp2_with (go_at_call 69; (with_reducible refine (over_yes g d k W HCG.out HD4.out HK.out HK4.out HDK.out).mono ?_); rintro e W' ⟨rfl, HDR⟩; have HB3 := Aside0.mk HDR.below; clear HDR)
        go_roundg g'
        case measure => omega
        case rel => exact ⟨pos + 1, ⟨blk_below HIT2.out HB3.out⟩, ⟨below_step HBW2.out HB3.out⟩, ⟨fun j hj h => by
          by_cases e : j = pos
          · subst e; rw [HD.out h]; have := HDK.out; omega
          · exact HAL.out j (by omega) h⟩, ⟨by have := HFU.out; omega⟩⟩
      · have HDK := Aside0.mk hdk
        clear hdk
        go_wp2_with (go_at_call 69; (with_reducible refine (over_no g d k W HCG.out HD4.out HK.out HK4.out HDK.out).mono ?_); rintro e W' ⟨rfl, HDR⟩; have HB3 := Aside0.mk HDR.below; clear HDR)
        go_ret
        refine ⟨_, rfl, ⟨by have := HPS.out; have := HS60.out; omega, by have := HPS.out; have := HS60.out; omega, ?_⟩, below_step HBW2.out HB3.out⟩
        refine iff_of_true (by omega) ?_
        rw [Bool.eq_false_iff]
        intro h
        have := List.all_eq_true.1 h _ (List.getElem_mem (show pos < (bl s).length by rw [bl_length]; exact HPS.out))
        rw [HD.out (by rw [bl_length]; exact HPS.out)] at this
        have h2 := HDK.out
        simp at this; omega
    · have hnx : ∀ ty, (Instr.next (.pointer (some ⟨w.heap.size, 0, none⟩)) true ty).run Try.prog wr = _ := fun ty => Lib.run_next_end_at wr w.heap.size s pos ty HIT.out hps
      have HPS := Aside0.mk hps
      clear hps
      go_wp2
      go_ret
      refine ⟨_, rfl, ⟨by omega, by omega, iff_of_false (by omega) ?_⟩, HBW.out⟩
      rw [Bool.not_eq_false]
      refine List.all_eq_true.2 fun b hb => ?_
      obtain ⟨j, hj, rfl⟩ := List.getElem_of_mem hb
      exact decide_eq_true (HAL.out j (by have h1 := HPS.out; rw [bl_length] at hj; omega) hj)
set_option maxHeartbeats 2000000 in
set_option maxRecDepth 100000 in
theorem idxf2 (s : ByteArray) (g k : Nat) (w : World) (hs : isW (bl s) = true) (hg : w.cell? ⟨g, 0, none⟩ = some (.int .i64 k)) (hgl : g < w.heap.size) (hk : 1 ≤ k) (hk4 : k ≤ 4) :
    Calls Try.prog 79 #[.string s, .func (.func 69) #[] #[.pointer (some ⟨g, 0, none⟩)]] w fun e w' => ∃ r : Int, e = .returned (.int .i64 r) ∧ Aside0 (-1 ≤ r ∧ r ≤ 60 ∧ (0 ≤ r ↔ ovr (bl s) k = false)) ∧ Below w.heap.size w w' := by
  have H := Aside0.mk (idxf s g k w hs hg hgl hk hk4)
  clear hs hg hgl hk hk4
  go_enter Try.func79, Try.ntmps79
  go_wp2_with (go_at_call 92; (with_reducible refine H.out.mono ?_); rintro e w1 ⟨r, rfl, HR, hb⟩; have HB := Aside0.mk hb; clear hb)
  go_ret
  exact ⟨r, rfl, HR, HB.out⟩
set_option maxHeartbeats 2000000 in
set_option maxRecDepth 100000 in
theorem contf (s : ByteArray) (g k : Nat) (w : World) (hs : isW (bl s) = true) (hg : w.cell? ⟨g, 0, none⟩ = some (.int .i64 k)) (hgl : g < w.heap.size) (hk : 1 ≤ k) (hk4 : k ≤ 4) (r : Bool) (hr : ovr (bl s) k = r) :
    Calls Try.prog 68 #[.string s, .func (.func 69) #[] #[.pointer (some ⟨g, 0, none⟩)]] w fun e w' => e = .returned (.bool (!r)) ∧ Below w.heap.size w w' := by
  have H := Aside0.mk (idxf2 s g k w hs hg hgl hk hk4)
  have HR := Aside0.mk hr
  clear hs hg hgl hk hk4 hr
  cases r with
  | true =>
    go_enter Try.func68, Try.ntmps68
    go_wp2_with (go_at_call 79; (with_reducible refine H.out.mono ?_); rintro e w1 ⟨r, rfl, HR2, hb⟩; have HB := Aside0.mk hb; have hr0 : decide (0 ≤ r) = false := decide_eq_false (fun h => by have := HR2.out.2.2.1 h; rw [HR.out] at this; cases this); clear hb)
    go_ret
    exact ⟨rfl, HB.out⟩
  | false =>
    go_enter Try.func68, Try.ntmps68
    go_wp2_with (go_at_call 79; (with_reducible refine H.out.mono ?_); rintro e w1 ⟨r, rfl, HR2, hb⟩; have HB := Aside0.mk hb; have hr0 : decide (0 ≤ r) = true := decide_eq_true (HR2.out.2.2.2 HR.out); clear hb)
    go_ret
    exact ⟨rfl, HB.out⟩
set_option maxHeartbeats 2000000 in
set_option maxRecDepth 100000 in
theorem over_any (s : ByteArray) (k : Nat) (w : World) (hs : isW (bl s) = true) (hk : 1 ≤ k) (hk4 : k ≤ 4) (r : Bool) (hr : ovr (bl s) k = r) :
    Calls Try.prog 50 #[.string s, .int .i64 k] w fun e w' => e = .returned (.bool r) ∧ Below w.heap.size w w' := by
  have H := Aside0.mk (contf s w.heap.size k (w.alloc (.cells #[.int .i64 (k : Int)] 3)) hs ((blk_cell (blk_new w _) 0).trans rfl) (by rw [World.size_alloc]; omega) hk hk4 r hr)
  clear hs hk hk4 hr
  go_enter Try.func50, Try.ntmps50
  go_wp2_with (go_at_call 68; (with_reducible refine H.out.mono ?_); rintro e w1 ⟨rfl, hb⟩; have HB := Aside0.mk (below_step (below_alloc (Below.refl _ _) _) hb); clear hb)
  go_ret
  exact ⟨by simp, HB.out⟩
end Go.Proofs.Ytagdbadljcongaa.X
end

section
/- thread.isFamily: through slices.ContainsFunc, IndexFunc and its closure. -/
set_option linter.unusedVariables false
set_option linter.unusedSimpArgs false
namespace Go.Proofs.Ytagdbadljcongaa.X
open Go Go.RowKit Go.Proofs Go.Proofs.YtagdbadljcongaaW.PrintWords Go.Proofs.YtagdbadljcongaaW.PrintLast Go.Proofs.YtagdbadljcongaaW.PrintMore
def fam1 (s : ByteArray) : Bool := isW (bl s) && decide (s.size ≤ 8)
/-- Whether a list is a family. -/
def famB (l : List ByteArray) : Bool := l.all fam1
set_option maxHeartbeats 2000000 in
set_option maxRecDepth 100000 in
theorem fam_cl (s : ByteArray) (w : World) (r : Bool) (hr : fam1 s = r) : Calls Try.prog 71 #[.string s] w fun e w' => e = .returned (.bool (!r)) ∧ Below w.heap.size w w' := by
  obtain ⟨v, hv⟩ : ∃ v, isW (bl s) = v := ⟨_, rfl⟩
  have HV := Aside0.mk hv
  have h2 : r = (v && decide (s.size ≤ 8)) := by rw [← hr, ← hv]; rfl
  subst h2
  clear hv hr
  cases v with
  | false =>
    go_enter Try.func71, Try.ntmps71
    go_wp2_with (go_at_call 48; (with_reducible refine (newWord_b s _ _ HV.out).mono ?_); rintro e w1 ⟨p, rfl, hb⟩; have HB := Aside0.mk hb; clear hb)
    go_ret
    exact ⟨rfl, HB.out⟩
  | true =>
    by_cases h8 : s.size ≤ 8
    · have h1 : ¬ ((8 : Int) < (s.size : Int)) := by omega
      have h2 : ¬ (8 < s.size) := by omega
      have h3 := decide_eq_true h8
      go_enter Try.func71, Try.ntmps71
      go_wp2_with (go_at_call 48; (with_reducible refine (newWord_b s _ _ HV.out).mono ?_); rintro e w1 ⟨p, rfl, hb⟩; have HB := Aside0.mk hb; clear hb)
      go_ret
      exact ⟨by simp [h8] <;> omega, HB.out⟩
    · have h1 : (8 : Int) < (s.size : Int) := by omega
      have h2 : 8 < s.size := by omega
      have h3 := decide_eq_false h8
      go_enter Try.func71, Try.ntmps71
      go_wp2_with (go_at_call 48; (with_reducible refine (newWord_b s _ _ HV.out).mono ?_); rintro e w1 ⟨p, rfl, hb⟩; have HB := Aside0.mk hb; clear hb)
      go_ret
      exact ⟨by simp [h8] <;> omega, HB.out⟩
set_option maxHeartbeats 4000000 in
set_option maxRecDepth 1000000 in
theorem fam_idx (A : Option Addr) (c : Nat) (l : List ByteArray) (w : World) (hC : Kd.C Kd.string w A l.length l) (hl : l.length ≤ 1000000) :
    Calls Try.prog 77 #[.slice A l.length c, .func (.func 71) #[] #[]] w fun e w' => ∃ r : Int, e = .returned (.int .i64 r) ∧ Aside0 (-1 ≤ r ∧ r ≤ 1000000 ∧ (0 ≤ r ↔ famB l = false)) ∧ Below w.heap.size w w' := by
  have HC := Aside0.mk hC
  have HL := Aside0.mk hl
  clear hC hl
  go_enter Try.func77, Try.ntmps77
  go_wp2
  go_loopw [8] (fun v8 wr => ∃ i : Nat, v8 = .int .i64 i ∧ i ≤ l.length ∧ Aside0 (Below w.heap.size w wr) ∧ Aside0 (∀ j, j < i → ∀ h : j < l.length, fam1 l[j] = true)) (fun v8 _ => l.length - (intOf v8).toNat)
  case atStart => exact ⟨0, rfl, by omega, ⟨Below.refl _ _⟩, ⟨by omega⟩⟩
  case round =>
    obtain ⟨i, rfl, hi, HB, HAL⟩ := hrel
    by_cases hlt : i < l.length
    · have hltI : (i : Int) < (l.length : Int) := by omega
      have hi0 : (0 : Int) ≤ (i : Int) := by omega
      obtain ⟨s, hs⟩ : ∃ s, l[i] = s := ⟨_, rfl⟩
      obtain ⟨ad, e, hx⟩ := Kd.at_string (Kd.C_below HC.out HB.out) (i : Int) hi0 hltI
      cases e
      have er : rdOf ByteArray.empty l (i : Int) = s := by unfold rdOf; simp [List.getD_eq_getElem?_getD, hlt, hs]
      rw [er, Int.toNat_natCast] at hx
      obtain ⟨r, hr⟩ : ∃ r, fam1 s = r := ⟨_, rfl⟩
      have HR := Aside0.mk hr
      have HS := Aside0.mk (show ∀ h : i < l.length, l[i] = s from fun _ => hs)
      have HLT := Aside0.mk hlt
      have hib : (i : Int) ≤ 1000000 := by have := HL.out; omega
      clear hlt hs er hr
      cases r with
      | true =>
        go_wp2_with (go_at_call 71; (with_reducible refine (fam_cl s _ _ HR.out).mono ?_); rintro e w1 ⟨rfl, hb⟩; have HB1 := Aside0.mk (below_step HB.out hb); clear hb)
        go_roundw
        case rel => exact ⟨i + 1, by go_num, by have := HLT.out; omega, HB1, ⟨fun j hj h => by
          by_cases e : j = i
          · subst e; rw [HS.out h]; exact HR.out
          · exact HAL.out j (by omega) h⟩⟩
        case measure => simp [intOf]; have := HLT.out; omega
      | false =>
        go_wp2_with (go_at_call 71; (with_reducible refine (fam_cl s _ _ HR.out).mono ?_); rintro e w1 ⟨rfl, hb⟩; have HB1 := Aside0.mk (below_step HB.out hb); clear hb)
        go_ret
        refine ⟨_, rfl, ⟨by omega, hib, iff_of_true hi0 ?_⟩, HB1.out⟩
        rw [Bool.eq_false_iff]
        intro h
        have := List.all_eq_true.1 h _ (List.getElem_mem HLT.out)
        rw [HS.out HLT.out, HR.out] at this
        cases this
    · have hltI : ¬ ((i : Int) < (l.length : Int)) := by omega
      have HLT := Aside0.mk hlt
      clear hlt
      go_wp2
      go_ret
      refine ⟨_, rfl, ⟨by omega, by omega, iff_of_false (by omega) ?_⟩, HB.out⟩
      rw [Bool.not_eq_false]
      refine List.all_eq_true.2 fun b hb => ?_
      obtain ⟨j, hj, rfl⟩ := List.getElem_of_mem hb
      exact HAL.out j (by have := HLT.out; omega) hj
set_option maxHeartbeats 2000000 in
set_option maxRecDepth 100000 in
theorem fam_cont (A : Option Addr) (c : Nat) (l : List ByteArray) (w : World) (hC : Kd.C Kd.string w A l.length l) (hl : l.length ≤ 1000000) (r : Bool) (hr : famB l = r) :
    Calls Try.prog 63 #[.slice A l.length c, .func (.func 71) #[] #[]] w fun e w' => e = .returned (.bool (!r)) ∧ Below w.heap.size w w' := by
  have H := Aside0.mk (fam_idx A c l w hC hl)
  have HR := Aside0.mk hr
  clear hC hl hr
  cases r with
  | true =>
    go_enter Try.func63, Try.ntmps63
    go_wp2_with (go_at_call 77; (with_reducible refine H.out.mono ?_); rintro e w1 ⟨r, rfl, HR2, hb⟩; have HB := Aside0.mk hb; have hr0 : decide (0 ≤ r) = false := decide_eq_false (fun h => by have := HR2.out.2.2.1 h; rw [HR.out] at this; cases this); clear hb)
    go_ret
    exact ⟨rfl, HB.out⟩
  | false =>
    go_enter Try.func63, Try.ntmps63
    go_wp2_with (go_at_call 77; (with_reducible refine H.out.mono ?_); rintro e w1 ⟨r, rfl, HR2, hb⟩; have HB := Aside0.mk hb; have hr0 : decide (0 ≤ r) = true := decide_eq_true (HR2.out.2.2.2 HR.out); clear hb)
    go_ret
    exact ⟨rfl, HB.out⟩
set_option maxHeartbeats 2000000 in
set_option maxRecDepth 100000 in
theorem fam_any (A : Option Addr) (c : Nat) (l : List ByteArray) (w : World) (hC : Kd.C Kd.string w A l.length l) (hl : l.length ≤ 1000000) (r : Bool) (hr : (decide (l.length ≤ 4) && famB l) = r) :
    Calls Try.prog 58 #[.slice A l.length c] w fun e w' => e = .returned (.bool r) ∧ Below w.heap.size w w' := by
  obtain ⟨v, hv⟩ : ∃ v, famB l = v := ⟨_, rfl⟩
  have H := Aside0.mk (fam_cont A c l w hC hl v hv)
  rw [hv] at hr
  subst hr
  by_cases h4 : l.length ≤ 4
  · have h1 : (l.length : Int) ≤ 4 := by omega
    clear hv hl hC
    go_enter Try.func58, Try.ntmps58
    go_wp2_with (go_at_call 63; (with_reducible refine H.out.mono ?_); rintro e w1 ⟨rfl, hb⟩; have HB := Aside0.mk hb; clear hb)
    go_ret
    exact ⟨by simp [h4], HB.out⟩
  · have h1 : ¬ ((l.length : Int) ≤ 4) := by omega
    clear hv hl hC
    go_enter Try.func58, Try.ntmps58
    go_wp2
    go_ret
    exact ⟨by simp [h4], Below.refl _ _⟩
end Go.Proofs.Ytagdbadljcongaa.X
end

section
/- Counting the words without some subsequences, as the program does it. -/
set_option linter.unusedVariables false
set_option linter.unusedSimpArgs false
namespace Go.Proofs.Ytagdbadljcongaa.X
open Go.RowKit Go.Proofs.YtagdbadljcongaaW.PrintWords
/-- The marks behind one letter more (x), from the i-th word on; none: a word is complete. -/
def aftL : List (List Nat) → Nat → List Nat → Nat → Option (List Nat)
  | [], _, m, _ => some m
  | w :: ws, i, m, x =>
    if w[m.getD i 0]? = some x then
      if m.getD i 0 + 1 = w.length then none else aftL ws (i + 1) (m.set i (m.getD i 0 + 1)) x
    else aftL ws (i + 1) m x
/-- Marks within the words (those from the i-th on are ws). -/
structure MOk (W : List (List Nat)) (m : List Nat) : Prop where
  len : m.length = 4
  lt : ∀ i, ∀ h : i < W.length, m.getD i 0 < (W[i]).length
  le : ∀ x ∈ m, x ≤ 8
theorem aftL_step {W : List (List Nat)} {i : Nat} {m : List Nat} {x : Nat} (h : i < W.length) : aftL (W.drop i) i m x =
    if (W[i])[m.getD i 0]? = some x then (if m.getD i 0 + 1 = (W[i]).length then none else aftL (W.drop (i + 1)) (i + 1) (m.set i (m.getD i 0 + 1)) x) else aftL (W.drop (i + 1)) (i + 1) m x := by
  rw [List.drop_eq_getElem_cons h]
  rfl
theorem getD_set (m : List Nat) (i j v : Nat) : (m.set i v).getD j 0 = if i = j ∧ i < m.length then v else m.getD j 0 := by
  simp only [List.getD_eq_getElem?_getD, List.getElem?_set]
  by_cases h : i = j
  · subst h
    by_cases h2 : i < m.length <;> simp [h2]
  · simp [h]
theorem MOk.set {W : List (List Nat)} {m : List Nat} (h : MOk W m) {i : Nat} (hi : i < W.length) (h8 : (W[i]).length ≤ 8) (hn : m.getD i 0 + 1 ≠ (W[i]).length) : MOk W (m.set i (m.getD i 0 + 1)) := by
  refine ⟨by rw [List.length_set]; exact h.len, fun j hj => ?_, fun x hx => ?_⟩
  · rw [getD_set]
    split
    · rename_i e
      obtain ⟨rfl, _⟩ := e
      have := h.lt i hi
      omega
    · exact h.lt j hj
  · rcases List.mem_or_eq_of_mem_set hx with e | e
    · exact h.le x e
    · have := h.lt i hi; omega
theorem aftL_ok {W : List (List Nat)} (h8 : ∀ w ∈ W, w.length ≤ 8) (x : Nat) : ∀ (k i : Nat) (m m' : List Nat), W.length - i = k → MOk W m → aftL (W.drop i) i m x = some m' → MOk W m'
  | 0, i, m, m', hk, hm, h => by
    rw [List.drop_eq_nil_of_le (by omega)] at h
    injection h with h
    subst h; exact hm
  | k + 1, i, m, m', hk, hm, h => by
    have hi : i < W.length := by omega
    rw [aftL_step hi] at h
    split at h
    · split at h
      · cases h
      · exact aftL_ok h8 x k (i + 1) _ m' (by omega) (hm.set hi (h8 _ (List.getElem_mem hi)) (by assumption)) h
    · exact aftL_ok h8 x k (i + 1) _ m' (by omega) hm h
def aft (W : List (List Nat)) (m : List Nat) (x : Nat) : Option (List Nat) := aftL W 0 m x
theorem aft_ok {W : List (List Nat)} (h8 : ∀ w ∈ W, w.length ≤ 8) {x : Nat} {m m' : List Nat} (hm : MOk W m) (h : aft W m x = some m') : MOk W m' := aftL_ok h8 x _ 0 m m' rfl hm (by rw [List.drop_zero]; exact h)
/-- What the first c letters make of marks. -/
def gos (W : List (List Nat)) (m : List Nat) (c : Nat) : List (List Nat) := (List.range c).filterMap fun d => aft W m (97 + d)
theorem gos_succ (W : List (List Nat)) (m : List Nat) (c : Nat) : gos W m (c + 1) = gos W m c ++ (aft W m (97 + c)).toList := by
  unfold gos
  rw [List.range_succ, List.filterMap_append]
  congr 1
theorem gos_len (W : List (List Nat)) (m : List Nat) (c : Nat) : (gos W m c).length ≤ c := by
  have := List.length_filterMap_le (fun d => aft W m (97 + d)) (List.range c)
  simpa [gos] using this
/-- The marks of all words of a length, each as often as it comes. -/
def lev (W : List (List Nat)) (k : Nat) : Nat → List (List Nat)
  | 0 => if [] ∈ W then [] else [[0, 0, 0, 0]]
  | n + 1 => (lev W k n).flatMap fun m => gos W m k
/-- How many words of each length there are. -/
def freeL (W : List (List Nat)) (k n : Nat) : List Nat := (List.range (n + 1)).map fun l => (lev W k l).length
theorem flat_le {S : List (List Nat)} {g : List Nat → List (List Nat)} {k : Nat} (h : ∀ m ∈ S, (g m).length ≤ k) : (S.flatMap g).length ≤ S.length * k := by
  induction S with
  | nil => simp
  | cons a r ih =>
    have h1 := h a (by simp)
    have h2 := ih (fun m hm => h m (by simp [hm]))
    simp only [List.flatMap_cons, List.length_append, List.length_cons, Nat.add_mul, Nat.one_mul]
    omega
theorem lev_le (W : List (List Nat)) (k : Nat) (hk : k ≤ 4) : ∀ n, (lev W k n).length ≤ 4 ^ n
  | 0 => by unfold lev; split <;> simp
  | n + 1 => by
    have h1 := flat_le (S := lev W k n) (g := fun m => gos W m k) (k := 4) (fun m _ => Nat.le_trans (gos_len W m k) hk)
    have h2 := lev_le W k hk n
    show ((lev W k n).flatMap fun m => gos W m k).length ≤ 4 ^ (n + 1)
    rw [Nat.pow_succ]
    exact Nat.le_trans h1 (Nat.mul_le_mul_right 4 h2)
theorem lev_ok {W : List (List Nat)} (h8 : ∀ w ∈ W, w.length ≤ 8) (k : Nat) : ∀ n, ∀ m ∈ lev W k n, MOk W m
  | 0, m, hm => by
    unfold lev at hm
    split at hm
    · cases hm
    · rename_i hn
      rw [List.mem_singleton] at hm
      subst hm
      refine ⟨rfl, fun i hi => ?_, by simp⟩
      have h0 : (W[i]).length ≠ 0 := fun e => hn (by rw [← List.eq_nil_of_length_eq_zero e]; exact List.getElem_mem hi)
      have : ([0, 0, 0, 0] : List Nat).getD i 0 = 0 := by
        simp only [List.getD_eq_getElem?_getD]
        rcases i with _ | _ | _ | _ | i <;> rfl
      rw [this]; omega
  | n + 1, m, hm => by
    obtain ⟨a, ha, h⟩ := List.mem_flatMap.1 hm
    obtain ⟨d, _, hd⟩ := List.mem_filterMap.1 h
    exact aft_ok h8 (lev_ok h8 k n a ha) hd
/-- What has come of some marks, each taken as often as S has it. -/
def acc (S : List (List Nat)) (g : List Nat → List (List Nat)) (V : List (List Nat)) : List (List Nat) := V.flatMap fun m => (g m).flatMap fun t => List.replicate (S.count m) t
theorem sum_one {V : List (List Nat)} (hn : V.Nodup) {x : List Nat} (hx : x ∈ V) (h : List Nat → Nat) : (V.map fun m => (if m = x then 1 else 0) * h m).sum = h x := by
  induction V with
  | nil => cases hx
  | cons a r ih =>
    obtain ⟨h1, h2⟩ := List.nodup_cons.1 hn
    simp only [List.map_cons, List.sum_cons]
    by_cases e : a = x
    · subst e
      have h0 : (r.map fun m => (if m = a then 1 else 0) * h m).sum = 0 := by
        clear ih hx hn h2
        induction r with
        | nil => rfl
        | cons b t ih =>
          have : b ≠ a := fun e => h1 (by simp [e])
          simp only [List.map_cons, List.sum_cons, if_neg this, Nat.zero_mul, Nat.zero_add]
          exact ih (fun hm => h1 (by simp [hm]))
      rw [if_pos rfl, h0]; simp
    · rw [if_neg e, ih h2 (by simpa [Ne.symm e] using hx)]; simp
theorem sum_cover {V : List (List Nat)} (hn : V.Nodup) (h : List Nat → Nat) : ∀ S : List (List Nat), (∀ x ∈ S, x ∈ V) → (V.map fun m => S.count m * h m).sum = (S.map h).sum
  | [], _ => by
    have : ∀ V : List (List Nat), (V.map fun m => ([] : List (List Nat)).count m * h m).sum = 0 := by
      intro V; induction V with
      | nil => rfl
      | cons a r ih => simp only [List.map_cons, List.sum_cons, List.count_nil, Nat.zero_mul, Nat.zero_add]; simpa using ih
    exact this V
  | x :: r, hs => by
    have ih := sum_cover hn h r (fun y hy => hs y (by simp [hy]))
    have h1 := sum_one hn (hs x (by simp)) h
    rw [List.map_cons, List.sum_cons, ← ih, ← h1]
    clear ih h1 hs hn
    induction V with
    | nil => rfl
    | cons a t ih =>
      simp only [List.map_cons, List.sum_cons]
      rw [ih, List.count_cons]
      have : (if (x == a) = true then 1 else 0) = (if a = x then 1 else 0 : Nat) := by
        by_cases e : a = x
        · subst e; simp
        · rw [if_neg e, if_neg (by simpa using Ne.symm e)]
      rw [this, Nat.add_mul]
      omega
theorem sum_sub {V : List (List Nat)} (hn : V.Nodup) (S : List (List Nat)) : (V.map fun m => S.count m).sum ≤ S.length := by
  have h := sum_cover hn (fun _ => 1) (S.filter fun x => decide (x ∈ V)) (fun x hx => by simpa using (List.mem_filter.1 hx).2)
  have e : (V.map fun m => S.count m) = V.map fun m => (S.filter fun x => decide (x ∈ V)).count m * 1 := by
    refine List.map_congr_left fun m hm => ?_
    rw [Nat.mul_one, List.count_filter (by simpa using hm)]
  rw [e, h]
  have h1 : ∀ L : List (List Nat), (L.map fun _ => 1).sum = L.length := fun L => by
    induction L with
    | nil => rfl
    | cons a r ih => simp only [List.map_cons, List.sum_cons, List.length_cons, ih]; omega
  rw [h1]
  exact List.length_filter_le _ _
theorem count_rep (n : Nat) (a : List Nat) : ∀ L : List (List Nat), (L.flatMap fun t => List.replicate n t).count a = n * L.count a
  | [] => by simp
  | x :: r => by
    rw [List.flatMap_cons, List.count_append, count_rep n a r, List.count_cons, List.count_replicate, Nat.mul_add]
    by_cases e : x = a
    · subst e; simp; omega
    · have : (x == a) = false := by simpa using e
      simp [this]
theorem length_rep (n : Nat) : ∀ L : List (List Nat), (L.flatMap fun t => List.replicate n t).length = n * L.length
  | [] => by simp
  | x :: r => by rw [List.flatMap_cons, List.length_append, length_rep n r, List.length_cons, List.length_replicate, Nat.mul_succ]; omega
theorem count_acc (S : List (List Nat)) (g : List Nat → List (List Nat)) (a : List Nat) : ∀ V : List (List Nat), (acc S g V).count a = (V.map fun m => S.count m * (g m).count a).sum
  | [] => by simp [acc]
  | x :: r => by
    have ih := count_acc S g a r
    unfold acc at ih ⊢
    rw [List.flatMap_cons, List.count_append, ih, count_rep]
    rfl
theorem count_flat (g : List Nat → List (List Nat)) (a : List Nat) : ∀ S : List (List Nat), (S.flatMap g).count a = (S.map fun m => (g m).count a).sum
  | [] => by simp
  | x :: r => by rw [List.flatMap_cons, List.count_append, count_flat g a r]; rfl
theorem acc_count {S V : List (List Nat)} (hn : V.Nodup) (hs : ∀ x ∈ S, x ∈ V) (g : List Nat → List (List Nat)) (a : List Nat) : (acc S g V).count a = (S.flatMap g).count a := by
  rw [count_acc, count_flat]
  exact sum_cover hn (fun m => (g m).count a) S hs
theorem acc_snoc (S : List (List Nat)) (g : List Nat → List (List Nat)) (V : List (List Nat)) (m : List Nat) : acc S g (V ++ [m]) = acc S g V ++ (g m).flatMap fun t => List.replicate (S.count m) t := by
  unfold acc
  rw [List.flatMap_append]
  simp
theorem acc_le (S : List (List Nat)) (g : List Nat → List (List Nat)) (k : Nat) : ∀ V : List (List Nat), (∀ m ∈ V, (g m).length ≤ k) → (acc S g V).length ≤ k * (V.map fun m => S.count m).sum
  | [], _ => by simp [acc]
  | x :: r, h => by
    have ih := acc_le S g k r (fun m hm => h m (by simp [hm]))
    unfold acc at ih ⊢
    rw [List.flatMap_cons, List.length_append, length_rep, List.map_cons, List.sum_cons, Nat.mul_add]
    have h1 := Nat.mul_le_mul_left (S.count x) (h x (by simp))
    rw [Nat.mul_comm (S.count x) k] at h1
    omega
end Go.Proofs.Ytagdbadljcongaa.X
end
