/- Texts behind TestsChecks, part 21: contracts of the program's functions and the plain words for them. -/
import Derived.Laws.EntriesVeiled
import Derived.Test.YtekmiepdodaidaaDoorTpas
import Derived.Test.YtekmiepdodaidaaDoorTpat
section
/- (trial).best's closure find, by hand: the best test of a set of faults, by a map of what is known. -/
set_option linter.unusedVariables false
set_option linter.unusedSimpArgs false
namespace Go.Proofs.YtekmiepdodaidaaDoor.X
open Go.RowKit Go.Proofs.YtekmiepdodaidaaDoorW.PrintWords Go.Proofs.YtekmiepdodaidaaDoorW.PrintLast Go.Proofs.YtekmiepdodaidaaDoorW.PrintMore
open Go.Maps (Keyed)

theorem keyed75 : Keyed Tryd.prog 75 := Maps.int_keyed Tryd.underlying75
theorem zero96 (w : World) : (zeroValue 96).run Tryd.prog w = .ok (.agg #[.int .i64 0, .int .i64 0]) w := by kernel_rfl
/-- The key of a set. -/
def ky (s : Int) : Lit := .int .u64 s
theorem ky_of {s : Int} (h : SetB s) : keyOf Tryd.prog 75 (.int .u64 s) = some (ky s) :=
 Maps.keyOf_int_mk Tryd.underlying75 (by unfold SetB at h; simp [Lit.wf, IntKind.min, IntKind.max, IntKind.bits, IntKind.signed]; omega)
theorem ky_key (s : Int) : WideAt.IsKeyLit (ky s) := trivial
theorem ky_inj {s u : Int} (h : ky s = ky u) : s = u := by unfold ky at h; injection h

/-- Where find's variables lie, and what the case is. -/
structure FEnv where
 W0 : World
 go : Nat
 gt : Nat
 gm : Nat
 gf : Nat
 B : Nat
 top : Nat
 A0 : Option Addr
 c0 : Nat
 l0 : List Int
 A1 : Option Addr
 c1 : Nat
 l1 : List (List Int)
 A2 : Option Addr
 c2 : Nat
 l2 : List Int
 A3 : Option Addr
 c3 : Nat
 l3 : List Int
 al : Int
 M : Nat
def FEnv.cells (E : FEnv) : Array Value := #[.slice E.A0 E.l0.length E.c0, .slice E.A1 E.l1.length E.c1, .slice E.A2 E.l2.length E.c2, .slice E.A3 E.l3.length E.c3, .int .u64 E.al]
def FEnv.ptrs (E : FEnv) : Array Value := #[.pointer (some ⟨E.go, 0, none⟩), .pointer (some ⟨E.gt, 0, none⟩), .pointer (some ⟨E.gm, 0, none⟩), .pointer (some ⟨E.gf, 0, none⟩)]
structure FOk (E : FEnv) : Prop where
 r0 : Kd.C (Kd.int .i64) E.W0 E.A0 E.l0.length E.l0
 n0 : E.l0.length ≤ E.c0
 r1 : Kd.C (Kd.slice 3 (Kd.int .i64)) E.W0 E.A1 E.l1.length E.l1
 n1 : E.l1.length ≤ E.c1
 r2 : Kd.C (Kd.int .i64) E.W0 E.A2 E.l2.length E.l2
 n2 : E.l2.length ≤ E.c2
 r3 : Kd.C (Kd.int .u64) E.W0 E.A3 E.l3.length E.l3
 n3 : E.l3.length ≤ E.c3
 low : E.W0.heap.size ≤ E.B ∧ E.W0.heap.size ≤ E.top
 lt : E.go < E.top ∧ E.gt < E.top ∧ E.gm < E.top ∧ E.gf < E.top ∧ E.B < E.top
 sets : ∀ x ∈ E.l3, SetB x
 few : E.l3.length ≤ 12
/-- Is the set done: it is one fault, or its choice is known? -/
def doneB (f : KMap) (u : Int) : Prop := pcount u = 1 ∨ (f (ky u)).isSome = true
/-- What is known is right. -/
def GoodB (E : FEnv) (ch : Int → Int × Int) (f : KMap) : Prop :=
 ∀ kl v, f kl = some v → ∃ s, SetB s ∧ 1 ≤ s ∧ kl = ky s ∧ v = .agg #[.int .i64 (ch s).1, .int .i64 (ch s).2] ∧ ∀ x ∈ E.l3, splitB s x = true → doneB f (bSub s x) ∧ doneB f (bAnd s x)
structure FW (E : FEnv) (ch : Int → Int × Int) (W : World) (f : KMap) : Prop where
 bo : W.heap[E.go]? = some (.cells #[.map (some E.B)] 93 (0, 0))
 bt : W.heap[E.gt]? = some (.cells E.cells 77 (0, 0))
 bm : W.heap[E.gm]? = some (.cells #[.func (.func E.M) #[] #[]] 92 (0, 0))
 bf : W.heap[E.gf]? = some (.cells #[.func (.func 72) #[] E.ptrs] 86 (0, 0))
 mp : MapIs Tryd.prog 75 W E.B 1024 f
 gd : GoodB E ch f
 bl : Below E.W0.heap.size E.W0 W
 tp : E.top ≤ W.heap.size
def KMap.le (f g : KMap) : Prop := ∀ kl v, f kl = some v → g kl = some v
theorem KMap.le_refl (f : KMap) : f.le f := fun _ _ h => h
theorem KMap.le_trans {f g h : KMap} (a : f.le g) (b : g.le h) : f.le h := fun kl v e => b kl v (a kl v e)
theorem doneB_le {f g : KMap} (h : f.le g) {u : Int} (hd : doneB f u) : doneB g u := by
 rcases hd with hd | hd
 ·exact .inl hd
 ·obtain ⟨v, hv⟩ := Option.isSome_iff_exists.1 hd
  exact .inr (by rw [h _ _ hv]; rfl)
theorem FW.below {E : FEnv} {ch : Int → Int × Int} {W W' : World} {f : KMap} (hE : FOk E) (h : FW E ch W f) (hb : Below E.top W W') : FW E ch W' f := by
 obtain ⟨l1, l2, l3, l4, l5⟩ := hE.lt
 refine ⟨(hb.block _ l1).trans h.bo, (hb.block _ l2).trans h.bt, (hb.block _ l3).trans h.bm, (hb.block _ l4).trans h.bf, ?_, h.gd, h.bl.trans (hb.mono hE.low.2), Nat.le_trans h.tp hb.size⟩
 exact h.mp.block (hb.block _ l5)
/-- What find returns at a set. -/
def FPost (E : FEnv) (ch : Int → Int × Int) (W : World) (f : KMap) (u : Int) (e : Ending) (w' : World) : Prop :=
 ∃ g, e = .returned (.int .i64 (cstB ch u)) ∧ FW E ch w' g ∧ W.grownBy w' (some E.B) ∧ f.le g ∧ doneB g u
theorem u64_id {s : Int} (h : SetB s) : IntKind.u64.wrap s = s := by unfold SetB at h; rw [IntKind.wrap_u64]; omega
theorem retI {a b : Int} (h : a = b) : Ending.returned (.int .i64 a) = .returned (.int .i64 b) := by rw [h]
set_option maxHeartbeats 2000000 in
set_option maxRecDepth 100000 in
theorem find_one (E : FEnv) (ch : Int → Int × Int) (s : Int) (hs : SetB s) (hp : pcount s = 1) (W : World) (f : KMap) (h : FW E ch W f) :
  Calls Tryd.prog 72 (#[.int .u64 s] ++ E.ptrs) W (FPost E ch W f s) := by
 have HW := Aside0.mk h
 have HS := Aside0.mk hs
 have HP := Aside0.mk hp
 have c1 : (pcount s == 1) = true := by simp [hp]
 clear h hs hp
 show Calls Tryd.prog 72 #[.int .u64 s, .pointer (some ⟨E.go, 0, none⟩), .pointer (some ⟨E.gt, 0, none⟩), .pointer (some ⟨E.gm, 0, none⟩), .pointer (some ⟨E.gf, 0, none⟩)] W _
 go_enter Tryd.func72, Tryd.ntmps72
 go_wp2_with (go_at_call 69; refine (ones_n _ (u64_id HS.out) _).mono ?_; rintro e w' ⟨rfl, rfl⟩)
 go_ret
 exact ⟨f, retI (by unfold cstB; rw [if_pos HP.out]), HW.out, World.grownBy.refl _ _, KMap.le_refl f, .inl HP.out⟩
set_option maxHeartbeats 4000000 in
set_option maxRecDepth 100000 in
theorem find_memo (E : FEnv) (ch : Int → Int × Int) (s : Int) (hs : SetB s) (hp : pcount s ≠ 1) (W : World) (f : KMap) (h : FW E ch W f) (hE : FOk E) (hm : (f (ky s)).isSome = true) :
  Calls Tryd.prog 72 (#[.int .u64 s] ++ E.ptrs) W (FPost E ch W f s) := by
 have HW := Aside0.mk h
 have HE := Aside0.mk hE
 have HS := Aside0.mk hs
 have HP := Aside0.mk hp
 have HM := Aside0.mk hm
 have c1 : (pcount s == 1) = false := by simp [hp]
 obtain ⟨v, hv⟩ := Option.isSome_iff_exists.1 hm
 obtain ⟨s', _, _, hk, rfl, _⟩ := h.gd _ _ hv
 obtain rfl := ky_inj hk
 have hcz : W.cell? ⟨E.go, 0, none⟩ = some (.map (some E.B)) := (blk_cell h.bo 0).trans rfl
 have hlook := h.mp.look_ok (t := 93) (e := 96) keyed75 Tryd.underlying93 (zero96 W) (ky_of hs)
 rw [hv] at hlook
 simp only [Option.getD_some, Option.isSome_some] at hlook
 clear h hs hp hm hv hk
 show Calls Tryd.prog 72 #[.int .u64 s, .pointer (some ⟨E.go, 0, none⟩), .pointer (some ⟨E.gt, 0, none⟩), .pointer (some ⟨E.gm, 0, none⟩), .pointer (some ⟨E.gf, 0, none⟩)] W _
 go_enter Tryd.func72, Tryd.ntmps72
 go_wp2_with (go_at_call 69; refine (ones_n _ (u64_id HS.out) _).mono ?_; rintro e w' ⟨rfl, rfl⟩)
 go_ret
 exact ⟨f, retI (by unfold cstB; rw [if_neg HP.out]), HW.out.below HE.out ((Below.refl _ _).alloc HW.out.tp _), World.grownBy_alloc _ _ _, KMap.le_refl f, .inr HM.out⟩
theorem grown_setNew {W w : World} {r : Option Nat} (h : W.grownBy w r) {p : Addr} (hp : W.heap.size ≤ p.block) (u : Value) : W.grownBy (w.setCell p u) r :=
 ⟨h.os, h.tape, h.output, by have := h.size; simpa [World.setCell] using this, fun k hk hr => (Below.heap_setCell _ _ _ _ (by omega)).trans (h.block k hk hr)⟩
theorem grown_below {W w w' : World} {r : Option Nat} (h : W.grownBy w r) (hb : Below w.heap.size w w') : W.grownBy w' r :=
 ⟨hb.os.trans h.os, hb.tape.trans h.tape, hb.output.trans h.output, Nat.le_trans h.size hb.size, fun k hk hr => (hb.block k (Nat.lt_of_lt_of_le hk h.size)).trans (h.block k hk hr)⟩
theorem grown_alloc {W w : World} {r : Option Nat} (h : W.grownBy w r) (o : Obj) : W.grownBy (w.alloc o) r := grown_below h (below_alloc (Below.refl _ _) o)
theorem grown_then {a b c : World} {row : Option Nat} (h : a.grownBy b row) (k : b.grownBy c row) : a.grownBy c row :=
 ⟨k.os.trans h.os, k.tape.trans h.tape, k.output.trans h.output, Nat.le_trans h.size k.size, fun i hi hr => (k.block i (Nat.lt_of_lt_of_le hi h.size) hr).trans (h.block i hi hr)⟩
theorem FW.alloc {E : FEnv} {ch : Int → Int × Int} {W : World} {f : KMap} (hE : FOk E) (h : FW E ch W f) (o : Obj) : FW E ch (W.alloc o) f := h.below hE ((Below.refl _ _).alloc h.tp o)
theorem FW.full {E : FEnv} {ch : Int → Int × Int} {W w' : World} {f : KMap} (hE : FOk E) (h : FW E ch W f) (hb : Below W.heap.size W w') : FW E ch w' f := h.below hE (hb.mono h.tp)
theorem FW.set {E : FEnv} {ch : Int → Int × Int} {W : World} {f : KMap} (hE : FOk E) (h : FW E ch W f) {p : Addr} (hp : E.top ≤ p.block) (u : Value) : FW E ch (W.setCell p u) f := h.below hE ((Below.refl _ _).setCell hp u)
/-- The cells that find reads. -/
def FEnv.Cells (E : FEnv) (w : World) : Prop :=
 w.cell? ⟨E.go, 0, none⟩ = some (.map (some E.B)) ∧ w.cell? ⟨E.gm, 0, none⟩ = some (.func (.func E.M) #[] #[]) ∧ w.cell? ⟨E.gf, 0, none⟩ = some (.func (.func 72) #[] E.ptrs) ∧
 w.cell? ⟨E.gt, 0, none⟩ = some (.slice E.A0 E.l0.length E.c0) ∧ w.cell? ⟨E.gt, 1, none⟩ = some (.slice E.A1 E.l1.length E.c1) ∧ w.cell? ⟨E.gt, 2, none⟩ = some (.slice E.A2 E.l2.length E.c2) ∧ w.cell? ⟨E.gt, 3, none⟩ = some (.slice E.A3 E.l3.length E.c3) ∧ w.cell? ⟨E.gt, 4, none⟩ = some (.int .u64 E.al)
theorem FW.cells {E : FEnv} {ch : Int → Int × Int} {W : World} {f : KMap} (h : FW E ch W f) : E.Cells W :=
 ⟨(blk_cell h.bo 0).trans rfl, (blk_cell h.bm 0).trans rfl, (blk_cell h.bf 0).trans rfl, (blk_cell h.bt 0).trans rfl, (blk_cell h.bt 1).trans rfl, (blk_cell h.bt 2).trans rfl, (blk_cell h.bt 3).trans rfl, (blk_cell h.bt 4).trans rfl⟩
def keys1024 : List Lit := (List.range 1024).map fun (n : Nat) => ky (n : Int)
theorem FW.put {E : FEnv} {ch : Int → Int × Int} {W w1 : World} {f : KMap} (hE : FOk E) (h : FW E ch W f) {s : Int} (hs : SetB s) (hs1 : 1 ≤ s) (hdone : ∀ x ∈ E.l3, splitB s x = true → doneB f (bSub s x) ∧ doneB f (bAnd s x))
  (hm : MapIs Tryd.prog 75 w1 E.B 1025 (f.put (ky s) (.agg #[.int .i64 (ch s).1, .int .i64 (ch s).2]))) (hg : W.grownBy w1 (some E.B)) : FW E ch w1 (f.put (ky s) (.agg #[.int .i64 (ch s).1, .int .i64 (ch s).2])) ∧ f.le (f.put (ky s) (.agg #[.int .i64 (ch s).1, .int .i64 (ch s).2])) := by
 have hle : f.le (f.put (ky s) (.agg #[.int .i64 (ch s).1, .int .i64 (ch s).2])) := by
  intro kl v hv
  by_cases e : kl = ky s
  ·subst e
   obtain ⟨u, _, _, hu, rfl, _⟩ := h.gd _ _ hv
   obtain rfl := ky_inj hu
   exact KMap.put_same f (ky_key s) _
  ·rw [KMap.put_other f e]; exact hv
 have hgood : GoodB E ch (f.put (ky s) (.agg #[.int .i64 (ch s).1, .int .i64 (ch s).2])) := by
  intro kl v hv
  by_cases e : kl = ky s
  ·subst e
   rw [KMap.put_same f (ky_key s)] at hv
   injection hv with hv
   exact ⟨s, hs, hs1, rfl, hv.symm, fun x hx hsp => ⟨doneB_le hle (hdone x hx hsp).1, doneB_le hle (hdone x hx hsp).2⟩⟩
  ·rw [KMap.put_other f e] at hv
   obtain ⟨u, a1, a2, a3, a4, a5⟩ := h.gd kl v hv
   exact ⟨u, a1, a2, a3, a4, fun x hx hsp => ⟨doneB_le hle (a5 x hx hsp).1, doneB_le hle (a5 x hx hsp).2⟩⟩
 have hlow := hE.low
 refine ⟨⟨blk_grown h.bo hg (fun e => h.mp.ne h.bo (by injection e with e; exact e.symm)), blk_grown h.bt hg (fun e => h.mp.ne h.bt (by injection e with e; exact e.symm)), blk_grown h.bm hg (fun e => h.mp.ne h.bm (by injection e with e; exact e.symm)), blk_grown h.bf hg (fun e => h.mp.ne h.bf (by injection e with e; exact e.symm)), ?_, hgood, ?_, Nat.le_trans h.tp hg.size⟩, hle⟩
 ·have := hm.size_le keyed75 keys1024 (by
   intro kl hk
   obtain ⟨v, hv⟩ := Option.isSome_iff_exists.1 hk
   obtain ⟨u, a1, a2, rfl, _⟩ := hgood kl v hv
   unfold SetB at a1
   exact List.mem_map.2 ⟨u.toNat, List.mem_range.2 (by omega), by rw [show ((u.toNat : Nat) : Int) = u by omega]⟩)
  rwa [show keys1024.length = 1024 by simp [keys1024]] at this
 ·exact h.bl.grown hg h.bl.size (fun k e => by injection e with e; subst e; exact hlow.1)
/-- Where find stands in a round: what is known, and the best test so far in its block. -/
structure FMid (E : FEnv) (ch : Int → Int × Int) (W : World) (f : KMap) (b1 b2 : Int) (w' : World) (g : KMap) : Prop where
 fw : FW E ch w' g
 gr : W.grownBy w' (some E.B)
 le : f.le g
 bx : w'.heap[W.heap.size + 1]? = some (.cells #[.int .i64 b1, .int .i64 b2] 96 (0, 0))
theorem FMid.below {E : FEnv} {ch : Int → Int × Int} {W w1 w2 : World} {f g : KMap} {b1 b2 : Int} (hE : FOk E) (h : FMid E ch W f b1 b2 w1 g) (hb : Below w1.heap.size w1 w2) : FMid E ch W f b1 b2 w2 g :=
 ⟨h.fw.full hE hb, grown_below h.gr hb, h.le, (hb.block _ (blk_lt h.bx)).trans h.bx⟩
theorem FMid.call {E : FEnv} {ch : Int → Int × Int} {W w1 w2 : World} {f g g2 : KMap} {b1 b2 : Int} (hE : FOk E) (hW : E.top ≤ W.heap.size) (h : FMid E ch W f b1 b2 w1 g) (hf : FW E ch w2 g2) (hg : w1.grownBy w2 (some E.B)) (hl : g.le g2) : FMid E ch W f b1 b2 w2 g2 :=
 ⟨hf, grown_then h.gr hg, KMap.le_trans h.le hl, (hg.block _ (blk_lt h.bx) (by have := hE.lt; intro e; injection e with e; omega)).trans h.bx⟩
theorem FMid.put {E : FEnv} {ch : Int → Int × Int} {W w1 : World} {f g : KMap} {b1 b2 : Int} (hE : FOk E) (hW : E.top ≤ W.heap.size) (h : FMid E ch W f b1 b2 w1 g) (a b : Int) :
  FMid E ch W f a b ((w1.setCell ⟨W.heap.size + 1, 0, none⟩ (.int .i64 a)).setCell ⟨W.heap.size + 1, 1, none⟩ (.int .i64 b)) g := by
 refine ⟨(h.fw.set hE (by show E.top ≤ W.heap.size + 1; omega) _).set hE (by show E.top ≤ W.heap.size + 1; omega) _, grown_setNew (grown_setNew h.gr (by show W.heap.size ≤ W.heap.size + 1; omega) _) (by show W.heap.size ≤ W.heap.size + 1; omega) _, h.le, ?_⟩
 exact (blk_set (blk_set h.bx 0 (.int .i64 a)) 1 (.int .i64 b)).trans rfl
/-- The loop's state: k tests are seen. -/
def FLoop (E : FEnv) (ch : Int → Int × Int) (mf : Int → Int → Int → Int → Int) (W : World) (f : KMap) (s : Int) (k : Nat) (w' : World) : Prop :=
 ∃ g b1 b2, FMid E ch W f b1 b2 w' g ∧ (∀ j, j < k → splitB s (rd E.l3 j) = true → doneB g (bSub s (rd E.l3 j)) ∧ doneB g (bAnd s (rd E.l3 j))) ∧
  pickB (fun k x => mf k s (cstB ch (bSub s x)) (cstB ch (bAnd s x))) s k (E.l3.drop k) (b1, b2) = ch s
theorem FLoop.next {E : FEnv} {ch : Int → Int × Int} {mf : Int → Int → Int → Int → Int} {W w' : World} {f g g' : KMap} {s x sa sb b1 b2 b1' b2' : Int} {k : Nat} (hk : k < E.l3.length) (hx : rd E.l3 k = x) (hsa : bAnd s x = sa) (hsb : bSub s x = sb) (hsp : splitB s x = true)
  (hdone : ∀ j, j < k → splitB s (rd E.l3 j) = true → doneB g (bSub s (rd E.l3 j)) ∧ doneB g (bAnd s (rd E.l3 j))) (hpick : pickB (fun k x => mf k s (cstB ch (bSub s x)) (cstB ch (bAnd s x))) s k (E.l3.drop k) (b1, b2) = ch s)
  (hdr : E.l3.drop k = x :: E.l3.drop (k + 1)) (hl : g.le g') (hda : doneB g' sa) (hdb : doneB g' sb) (hm : FMid E ch W f b1' b2' w' g')
  (hb : (b1', b2') = if b1 < 0 ∨ mf k s (cstB ch sb) (cstB ch sa) < b2 then ((k : Int), mf k s (cstB ch sb) (cstB ch sa)) else (b1, b2)) : FLoop E ch mf W f s (k + 1) w' := by
 refine ⟨g', b1', b2', hm, fun j hj => ?_, ?_⟩
 ·by_cases ej : j = k
  ·subst ej; rw [hx, hsa, hsb]; exact fun _ => ⟨hdb, hda⟩
  ·intro hs
   obtain ⟨h1, h2⟩ := hdone j (by omega) hs
   exact ⟨doneB_le hl h1, doneB_le hl h2⟩
 ·rw [hdr] at hpick
  unfold pickB at hpick
  rw [if_pos hsp, hsa, hsb] at hpick
  rw [hb]
  exact hpick
theorem size_alloc' (w : World) (o : Obj) : (w.alloc o).heap.size = w.heap.size + 1 := by first | (simp; done) | exact Array.size_push _ | rfl
theorem blk_5 (w : World) (o1 o2 o3 o4 o5 : Obj) : (((((w.alloc o1).alloc o2).alloc o3).alloc o4).alloc o5).heap[w.heap.size]? = some o1 ∧ (((((w.alloc o1).alloc o2).alloc o3).alloc o4).alloc o5).heap[w.heap.size + 1]? = some o2 ∧ (((((w.alloc o1).alloc o2).alloc o3).alloc o4).alloc o5).heap[w.heap.size + 1 + 1]? = some o3 ∧ (((((w.alloc o1).alloc o2).alloc o3).alloc o4).alloc o5).heap[w.heap.size + 1 + 1 + 1]? = some o4 ∧ (((((w.alloc o1).alloc o2).alloc o3).alloc o4).alloc o5).heap[w.heap.size + 1 + 1 + 1 + 1]? = some o5 := by
 refine ⟨blk_alloc (blk_alloc (blk_alloc (blk_alloc (blk_new w o1) o2) o3) o4) o5, ?_, ?_, ?_, ?_⟩
 ·have := blk_alloc (blk_alloc (blk_alloc (blk_new (w.alloc o1) o2) o3) o4) o5
  rwa [size_alloc'] at this
 ·have := blk_alloc (blk_alloc (blk_new ((w.alloc o1).alloc o2) o3) o4) o5
  rwa [size_alloc', size_alloc'] at this
 ·have := blk_alloc (blk_new (((w.alloc o1).alloc o2).alloc o3) o4) o5
  rwa [size_alloc', size_alloc', size_alloc'] at this
 ·have := blk_new ((((w.alloc o1).alloc o2).alloc o3).alloc o4) o5
  rwa [size_alloc', size_alloc', size_alloc', size_alloc'] at this
theorem FW.start (E : FEnv) (ch : Int → Int × Int) (h1 : E.gt = E.W0.heap.size) (h2 : E.gm = E.W0.heap.size + 1) (h3 : E.B = E.W0.heap.size + 1 + 1) (h4 : E.go = E.W0.heap.size + 1 + 1 + 1) (h5 : E.gf = E.W0.heap.size + 1 + 1 + 1 + 1) (h6 : E.top = E.W0.heap.size + 1 + 1 + 1 + 1 + 1) :
  FW E ch (((((E.W0.alloc (.cells E.cells 77 (0, 0))).alloc (.cells #[.func (.func E.M) #[] #[]] 92 (0, 0))).alloc (.map #[] 0)).alloc (.cells #[.map (some E.B)] 93 (0, 0))).alloc (.cells #[.func (.func 72) #[] E.ptrs] 86 (0, 0))) KMap.empty := by
 obtain ⟨b1, b2, b3, b4, b5⟩ := blk_5 E.W0 (.cells E.cells 77 (0, 0)) (.cells #[.func (.func E.M) #[] #[]] 92 (0, 0)) (.map #[] 0) (.cells #[.map (some E.B)] 93 (0, 0)) (.cells #[.func (.func 72) #[] E.ptrs] 86 (0, 0))
 refine ⟨by rw [h4]; exact b4, by rw [h1]; exact b1, by rw [h2]; exact b2, by rw [h5]; exact b5, ?_, fun kl v e => (by cases e), ?_, ?_⟩
 ·have hm := (((MapIs.made ((E.W0.alloc (.cells E.cells 77 (0, 0))).alloc (.cells #[.func (.func E.M) #[] #[]] 92 (0, 0))) Tryd.prog 75).alloc (.cells #[.map (some E.B)] 93 (0, 0))).alloc (.cells #[.func (.func 72) #[] E.ptrs] 86 (0, 0))).mono (n' := 1024) (by omega)
  rw [size_alloc', size_alloc', ← h3] at hm
  exact hm
 ·exact below_alloc (below_alloc (below_alloc (below_alloc (below_alloc (Below.refl _ _) _) _) _) _) _
 ·rw [h6, size_alloc', size_alloc', size_alloc', size_alloc', size_alloc']; omega
end Go.Proofs.YtekmiepdodaidaaDoor.X
end

section
/- (trial).best's closure find, by hand: the step, with the measure of function 40. -/
set_option linter.unusedVariables false
set_option linter.unusedSimpArgs false
namespace Go.Proofs.YtekmiepdodaidaaDoor.X
open Go.RowKit Go.Proofs.YtekmiepdodaidaaDoorW.PrintWords Go.Proofs.YtekmiepdodaidaaDoorW.PrintLast Go.Proofs.YtekmiepdodaidaaDoorW.PrintMore

/-- What is asked of the measure. -/
def MOk40 (E : FEnv) (mf : Int → Int → Int → Int → Int) : Prop :=
 ∀ (W : World) (k : Nat) (s z o : Int), Below E.W0.heap.size E.W0 W → k < E.l3.length → SetB s → Calls Tryd.prog 40 #[.agg #[.slice E.A0 E.l0.length E.c0, .slice E.A1 E.l1.length E.c1, .slice E.A2 E.l2.length E.c2, .slice E.A3 E.l3.length E.c3, .int .u64 E.al], .int .i64 k, .int .u64 s, .int .i64 z, .int .i64 o] W fun e w' => e = .returned (.int .i64 (mf k s z o)) ∧ Below W.heap.size W w'
theorem fs_mk40 {E : FEnv} {ch : Int → Int × Int} {g : KMap} {w' : World} (h : FW E ch w' g) (hM : E.M = 40) :
  w'.cell? ⟨E.gm, 0, none⟩ = some (.func (.func 40) #[] #[]) ∧ w'.cell? ⟨E.gf, 0, none⟩ = some (.func (.func 72) #[] #[.pointer (some ⟨E.go, 0, none⟩), .pointer (some ⟨E.gt, 0, none⟩), .pointer (some ⟨E.gm, 0, none⟩), .pointer (some ⟨E.gf, 0, none⟩)]) ∧ w'.cell? ⟨E.gt, 0, none⟩ = some (.slice E.A0 E.l0.length E.c0) ∧ w'.cell? ⟨E.gt, 1, none⟩ = some (.slice E.A1 E.l1.length E.c1) ∧ w'.cell? ⟨E.gt, 2, none⟩ = some (.slice E.A2 E.l2.length E.c2) ∧ w'.cell? ⟨E.gt, 3, none⟩ = some (.slice E.A3 E.l3.length E.c3) ∧ w'.cell? ⟨E.gt, 4, none⟩ = some (.int .u64 E.al) := by
 obtain ⟨h1, h2, h3, h4, h5, h6, h7, h8⟩ := h.cells
 rw [hM] at h2
 exact ⟨h2, h3, h4, h5, h6, h7, h8⟩
set_option maxHeartbeats 8000000 in
set_option maxRecDepth 100000 in
theorem find_step40 (E : FEnv) (ch : Int → Int × Int) (mf : Int → Int → Int → Int → Int) (hE : FOk E) (hM : MOk40 E mf) (hMn : E.M = 40) (s : Int) (hs : SetB s) (hs1 : 1 ≤ s) (hp : pcount s ≠ 1) (hch : ch s = chsStep mf E.l3 ch s) (W : World) (f : KMap) (h : FW E ch W f) (hm : (f (ky s)).isSome = false)
  (ih : ∀ u, SetB u → 1 ≤ u → u < s → ∀ W f, FW E ch W f → Calls Tryd.prog 72 #[.int .u64 u, .pointer (some ⟨E.go, 0, none⟩), .pointer (some ⟨E.gt, 0, none⟩), .pointer (some ⟨E.gm, 0, none⟩), .pointer (some ⟨E.gf, 0, none⟩)] W (FPost E ch W f u)) :
  Calls Tryd.prog 72 #[.int .u64 s, .pointer (some ⟨E.go, 0, none⟩), .pointer (some ⟨E.gt, 0, none⟩), .pointer (some ⟨E.gm, 0, none⟩), .pointer (some ⟨E.gf, 0, none⟩)] W (FPost E ch W f s) := by
 have HW := Aside0.mk h
 have HE := Aside0.mk hE
 have HS := Aside0.mk hs
 have HS1 := Aside0.mk hs1
 have HP := Aside0.mk hp
 have HNM := Aside0.mk hm
 have HCH := Aside0.mk hch
 have hM' := hM
 unfold MOk40 at hM'
 have HMM := Aside0.mk hM'
 clear hM'
 have IH := Aside0.mk ih
 have c1 : (pcount s == 1) = false := by simp [hp]
 have hv : f (ky s) = none := by cases hf : f (ky s) with | none => rfl | some v => rw [hf] at hm; cases hm
 have hcz : W.cell? ⟨E.go, 0, none⟩ = some (.map (some E.B)) := (blk_cell h.bo 0).trans rfl
 have hct : W.cell? ⟨E.gt, 3, none⟩ = some (.slice E.A3 E.l3.length E.c3) := (blk_cell h.bt 3).trans rfl
 have hgo : E.go < W.heap.size := blk_lt h.bo
 have hgt : E.gt < W.heap.size := blk_lt h.bt
 have hlook := h.mp.look_ok (t := 93) (e := 96) keyed75 Tryd.underlying93 (zero96 W) (ky_of hs)
 rw [hv] at hlook
 simp only [Option.getD_none, Option.isSome_none] at hlook
 have hm3 := Kd.C_max hE.r3
 obtain ⟨a3, ha3⟩ : ∃ a, a = E.A3 := ⟨_, rfl⟩
 rw [← ha3] at hct
 have HA3 := Aside0.mk ha3
 clear ha3
 clear h hs hs1 hp hm hv hch hM ih
 go_enter Tryd.func72, Tryd.ntmps72
 go_wp2_with (go_at_call 69; refine (ones_n _ (u64_id HS.out) _).mono ?_; rintro e w' ⟨rfl, rfl⟩)
 go_loopg [29] E.l3.length (fun kq v29 w' => ∃ k : Nat, v29 = .int .i64 k ∧ Aside0 (kq + k = E.l3.length) ∧ Aside0 (FLoop E ch mf W f s k w'))
 case atStart =>
  refine ⟨0, rfl, ⟨by omega⟩, ⟨f, -1, 0, ⟨(HW.out.alloc HE.out _).alloc HE.out _, grown_alloc (World.grownBy_alloc _ _ _) _, KMap.le_refl f, ?_⟩, (by intro j hj; omega), HCH.out.symm⟩⟩
  have := blk_new (W.alloc (.cells #[.int .i64 0, .int .i64 0] 96)) (.cells #[.int .i64 (-1), .int .i64 0] 96 (0, 0))
  rwa [show (W.alloc (.cells #[.int .i64 0, .int .i64 0] 96)).heap.size = W.heap.size + 1 by simp] at this
 case round =>
  obtain ⟨k, rfl, HK, HL⟩ := hrel
  obtain ⟨k1, rfl⟩ : ∃ k1, k1 = gk := ⟨_, rfl⟩
  obtain ⟨g, b1, b2, hMid, hdone, hpick⟩ := HL.out
  clear HL hcz hct hlook hgo hgt
  by_cases hk : k < E.l3.length
  ·have HMid := Aside0.mk hMid
   have HDone := Aside0.mk hdone
   have HPick := Aside0.mk hpick
   have hC := Kd.C_below HE.out.r3 hMid.fw.bl
   obtain ⟨ad, e1, hx⟩ := Kd.at_int hC (k : Int) (by omega) (by omega)
   simp only [Int.toNat_natCast] at hx
   obtain ⟨x, hxn⟩ : ∃ x, rd E.l3 (k : Int) = x := ⟨_, rfl⟩
   have HX := Aside0.mk hxn
   rw [hxn] at hx
   have HSX := Aside0.mk (show SetB x by
    rw [← hxn]; refine HE.out.sets _ ?_
    simp only [rd, Int.toNat_natCast, List.getD_eq_getElem?_getD, List.getElem?_eq_getElem hk, Option.getD_some]; exact List.getElem_mem hk)
   have HDR := Aside0.mk (show E.l3.drop k = x :: E.l3.drop (k + 1) by
    rw [List.drop_eq_getElem_cons hk, ← hxn]; simp [rd, List.getD_eq_getElem?_getD, List.getElem?_eq_getElem hk])
   obtain ⟨sa, hsa⟩ : ∃ sa, Go.bits .and .u64 s x = sa := ⟨_, rfl⟩
   obtain ⟨sb, hsb⟩ : ∃ sb, Go.bits .andNot .u64 s x = sb := ⟨_, rfl⟩
   have HSA := Aside0.mk (show bAnd s x = sa from hsa)
   have HSB := Aside0.mk (show bSub s x = sb from hsb)
   rw [← HA3.out] at e1
   clear hMid hdone hpick hC hxn
   cases e1
   by_cases hz : sa = 0 ∨ sb = 0
   ·have hnot : splitB s x = false := by unfold splitB; rw [HSA.out, HSB.out]; rcases hz with h0 | h0 <;> simp [h0]
    have HNOT := Aside0.mk hnot
    have hrel2 : Aside0 (FLoop E ch mf W f s (k + 1) wr) := ⟨⟨g, b1, b2, HMid.out, (by
     intro j hj
     by_cases ej : j = k
     ·subst ej; rw [HX.out, HNOT.out]; intro hf; cases hf
     ·exact HDone.out j (by omega)), (by
     have hp := HPick.out
     rw [HDR.out] at hp
     unfold pickB at hp
     rw [if_neg (by rw [HNOT.out]; decide)] at hp
     exact hp)⟩⟩
    clear hnot HMid HDone HPick
    by_cases ha : sa = 0
    ·have ca : (sa == 0) = true := by simp [ha]
     clear ha hz
     go_wp2
     go_roundg (k1 - 1)
     case measure => have := HK.out; omega
     case rel => exact ⟨k + 1, by go_num, ⟨by have := HK.out; omega⟩, hrel2⟩
    ·have ca : (sa == 0) = false := by simp [ha]
     have cb : (sb == 0) = true := by simp; omega
     clear ha hz
     go_wp2
     go_roundg (k1 - 1)
     case measure => have := HK.out; omega
     case rel => exact ⟨k + 1, by go_num, ⟨by have := HK.out; omega⟩, hrel2⟩
   ·have ca : (sa == 0) = false := by simp; omega
    have cb : (sb == 0) = false := by simp; omega
    have hyes : splitB s x = true := by unfold splitB; rw [HSA.out, HSB.out, ca, cb]; rfl
    have HYES := Aside0.mk hyes
    have hparts := split_parts HS.out HSX.out hyes
    rw [HSA.out, HSB.out] at hparts
    have HPA := Aside0.mk hparts
    clear hz hyes hparts
    go_upto_region 11 with (fail)
    have HPb := Aside0.mk (show SetB sb ∧ 1 ≤ sb ∧ sb < s by have h1 := HPA.out; have h2 := HS.out; unfold SetB at h2 ⊢; omega)
    have HPa := Aside0.mk (show SetB sa ∧ 1 ≤ sa ∧ sa < s by have h1 := HPA.out; have h2 := HS.out; unfold SetB at h2 ⊢; omega)
    go_region_held3 (fun w' => w'.cell? ⟨E.gm, 0, none⟩ = some (.func (.func 40) #[] #[]) ∧ w'.cell? ⟨E.gf, 0, none⟩ = some (.func (.func 72) #[] #[.pointer (some ⟨E.go, 0, none⟩), .pointer (some ⟨E.gt, 0, none⟩), .pointer (some ⟨E.gm, 0, none⟩), .pointer (some ⟨E.gf, 0, none⟩)]) ∧ w'.cell? ⟨E.gt, 0, none⟩ = some (.slice E.A0 E.l0.length E.c0) ∧ w'.cell? ⟨E.gt, 1, none⟩ = some (.slice E.A1 E.l1.length E.c1) ∧ w'.cell? ⟨E.gt, 2, none⟩ = some (.slice E.A2 E.l2.length E.c2) ∧ w'.cell? ⟨E.gt, 3, none⟩ = some (.slice E.A3 E.l3.length E.c3) ∧ w'.cell? ⟨E.gt, 4, none⟩ = some (.int .u64 E.al)) (first | exact fs_mk40 (HMid.out.fw.full HE.out (below_drew (Below.refl _ _))) hMn | exact fs_mk40 HM9.out.fw hMn | exact fs_mk40 HM10.out.fw hMn | exact fs_mk40 HM11.out.fw hMn)
     (first | (go_at_call 72; (with_reducible refine (IH.out sb ?side1 ?side2 ?side3 _ g (HMid.out.fw.full HE.out (below_drew (Below.refl _ _)))).mono ?_); (case side1 => exact HPb.out.1); (case side2 => exact HPb.out.2.1); (case side3 => exact HPb.out.2.2); rintro e w9 ⟨g9, rfl, hfw, hgr, hle, hdn⟩; (have HM9 := Aside0.mk (FMid.call HE.out HW.out.tp (HMid.out.below HE.out (below_drew (Below.refl _ _))) hfw hgr hle)); (have HL9 := Aside0.mk hle); (have HDb := Aside0.mk hdn); clear hfw hgr hle hdn) | (go_at_call 72; (with_reducible refine (IH.out sa ?side1 ?side2 ?side3 _ g9 HM9.out.fw).mono ?_); (case side1 => exact HPa.out.1); (case side2 => exact HPa.out.2.1); (case side3 => exact HPa.out.2.2); rintro e w10 ⟨g10, rfl, hfw, hgr, hle, hdn⟩; (have HM10 := Aside0.mk (FMid.call HE.out HW.out.tp HM9.out hfw hgr hle)); (have HL10 := Aside0.mk (KMap.le_trans HL9.out hle)); (have HDa := Aside0.mk hdn); (have HDb2 := Aside0.mk (doneB_le hle HDb.out)); clear hfw hgr hle hdn) | (go_at_call 40; (with_reducible refine (HMM.out _ k s (cstB ch sb) (cstB ch sa) ?side1 ?side2 ?side3).mono ?_); (case side1 => exact HM10.out.fw.bl); (case side2 => exact hk); (case side3 => exact HS.out); rintro e w11 ⟨rfl, hb⟩; (have HM11 := Aside0.mk (HM10.out.below HE.out hb)); clear hb))
    obtain ⟨cc, hcc⟩ : ∃ cc, mf k s (cstB ch sb) (cstB ch sa) = cc := ⟨_, rfl⟩
    rw [hcc]
    have HCC := Aside0.mk hcc
    clear hcc
    have hb0 : w11.cell? ⟨W.heap.size + 1, 0, none⟩ = some (.int .i64 b1) := (blk_cell HM11.out.bx 0).trans rfl
    have hb1 : w11.cell? ⟨W.heap.size + 1, 1, none⟩ = some (.int .i64 b2) := (blk_cell HM11.out.bx 1).trans rfl
    have hf0 := blk_frozen HM11.out.bx 0
    have hf1 := blk_frozen HM11.out.bx 1
    have HB1 := Aside0.mk hb1
    clear hb1
    have hb1 := HB1.out
    by_cases ht : b1 < 0 ∨ cc < b2
    ·have HT := Aside0.mk ht
     have hrel2 : Aside0 (FLoop E ch mf W f s (k + 1) ((w11.setCell ⟨W.heap.size + 1, 0, none⟩ (.int .i64 k)).setCell ⟨W.heap.size + 1, 1, none⟩ (.int .i64 cc))) :=
      ⟨FLoop.next hk HX.out HSA.out HSB.out HYES.out HDone.out HPick.out HDR.out HL10.out HDa.out HDb2.out (FMid.put HE.out HW.out.tp HM11.out k cc) (by rw [HCC.out, if_pos HT.out])⟩
     by_cases h0 : b1 < 0
     ·have d0 : decide (b1 < 0) = true := decide_eq_true h0
      clear ht h0
      go_wp2
      go_roundg (k1 - 1)
      case measure => have := HK.out; omega
      case rel => exact ⟨k + 1, by go_num, ⟨by have := HK.out; omega⟩, hrel2⟩
     ·have d0 : decide (b1 < 0) = false := decide_eq_false h0
      have d1 : decide (cc < b2) = true := decide_eq_true (by omega)
      clear ht h0
      go_wp2
      go_roundg (k1 - 1)
      case measure => have := HK.out; omega
      case rel => exact ⟨k + 1, by go_num, ⟨by have := HK.out; omega⟩, hrel2⟩
    ·have HT := Aside0.mk ht
     have hrel2 : Aside0 (FLoop E ch mf W f s (k + 1) w11) :=
      ⟨FLoop.next hk HX.out HSA.out HSB.out HYES.out HDone.out HPick.out HDR.out HL10.out HDa.out HDb2.out HM11.out (by rw [HCC.out, if_neg HT.out])⟩
     have d0 : decide (b1 < 0) = false := decide_eq_false (fun h => ht (.inl h))
     have d1 : decide (cc < b2) = false := decide_eq_false (fun h => ht (.inr h))
     clear ht
     go_wp2
     go_roundg (k1 - 1)
     case measure => have := HK.out; omega
     case rel => exact ⟨k + 1, by go_num, ⟨by have := HK.out; omega⟩, hrel2⟩
  ·obtain rfl : k = E.l3.length := by have := HK.out; omega
   rw [List.drop_length] at hpick
   have hbe : (b1, b2) = ch s := hpick
   have HBE := Aside0.mk hbe
   have hdone2 : ∀ x ∈ E.l3, splitB s x = true → doneB g (bSub s x) ∧ doneB g (bAnd s x) := by
    intro x hx hsp
    obtain ⟨j, hj, rfl⟩ := List.getElem_of_mem hx
    have he : rd E.l3 j = E.l3[j] := by simp [rd, List.getD_eq_getElem?_getD, List.getElem?_eq_getElem hj]
    have := hdone j hj
    rw [he] at this
    exact this hsp
   have HD2 := Aside0.mk hdone2
   have HMid := Aside0.mk hMid
   have hb0 : wr.cell? ⟨W.heap.size + 1, 0, none⟩ = some (.int .i64 b1) := (blk_cell hMid.bx 0).trans rfl
   have hb1 : wr.cell? ⟨W.heap.size + 1, 1, none⟩ = some (.int .i64 b2) := (blk_cell hMid.bx 1).trans rfl
   have hcz2 : wr.cell? ⟨E.go, 0, none⟩ = some (.map (some E.B)) := (blk_cell hMid.fw.bo 0).trans rfl
   have hB : some (W.heap.size + 1) ≠ some E.B := by intro e; injection e with e; have h1 := HE.out.lt; have h2 := HW.out.tp; omega
   have HB := Aside0.mk hB
   clear hMid hdone hpick hbe hdone2 hk hB
   go_wp2_with (at_mapUpdate; refine wpList_put_is _ rfl _ _ _ 93 rfl 75 96 keyed75 Tryd.underlying93 E.B 1024 g rfl HMid.out.fw.mp (by decide) (.int .u64 s) _ (ky s) rfl rfl (ky_of HS.out) ?_; intro w1 hown1 hgrow1; have HO1 := Aside0.mk hown1; have HG1 := Aside0.mk hgrow1; have hb1' : w1.cell? ⟨W.heap.size + 1, 1, none⟩ = some (.int .i64 b2) := (blk_cell (blk_grown HMid.out.bx hgrow1 HB.out) 1).trans rfl; clear hown1 hgrow1)
   go_ret
   have e1 : b1 = (ch s).1 := by rw [← HBE.out]
   have e2 : b2 = (ch s).2 := by rw [← HBE.out]
   have ho := HO1.out
   rw [e1, e2] at ho
   obtain ⟨hfw, hle⟩ := FW.put HE.out HMid.out.fw HS.out HS1.out HD2.out ho HG1.out
   exact ⟨_, retI (by unfold cstB; rw [if_neg HP.out, e2]), hfw, grown_then HMid.out.gr HG1.out, KMap.le_trans HMid.out.le hle, .inr (by rw [KMap.put_same _ (ky_key s)]; rfl)⟩
theorem find_all40 (E : FEnv) (ch : Int → Int × Int) (mf : Int → Int → Int → Int → Int) (hE : FOk E) (hM : MOk40 E mf) (hMn : E.M = 40) (hch : ∀ s, SetB s → 1 ≤ s → ch s = chsStep mf E.l3 ch s) (d : Nat) :
  ∀ u, SetB u → 1 ≤ u → u.toNat ≤ d → ∀ W f, FW E ch W f → Calls Tryd.prog 72 #[.int .u64 u, .pointer (some ⟨E.go, 0, none⟩), .pointer (some ⟨E.gt, 0, none⟩), .pointer (some ⟨E.gm, 0, none⟩), .pointer (some ⟨E.gf, 0, none⟩)] W (FPost E ch W f u) := by
 induction d with
 | zero => intro u h1 h2 h3; unfold SetB at h1; omega
 | succ d ih =>
  intro u h1 h2 h3 W f h
  by_cases hp : pcount u = 1
  ·exact find_one E ch u h1 hp W f h
  ·by_cases hm : (f (ky u)).isSome = true
   ·exact find_memo E ch u h1 hp W f h hE hm
   ·exact find_step40 E ch mf hE hM hMn u h1 h2 hp (hch u h1 h2) W f h (by simpa using hm) (fun v v1 v2 v3 => ih v v1 v2 (by omega))
/-- What best returns: the map of the choices. -/
def BPost40 (l3 : List Int) (ch : Int → Int × Int) (al : Int) (W : World) (e : Ending) (w' : World) : Prop :=
 ∃ B f, e = .returned (.map (some B)) ∧ MapIs Tryd.prog 75 w' B 1024 f ∧ W.heap.size ≤ B ∧ Below W.heap.size W w' ∧ doneB f al ∧
  ∀ kl v, f kl = some v → ∃ s, SetB s ∧ 1 ≤ s ∧ kl = ky s ∧ v = .agg #[.int .i64 (ch s).1, .int .i64 (ch s).2] ∧ ∀ x ∈ l3, splitB s x = true → doneB f (bSub s x) ∧ doneB f (bAnd s x)
set_option maxHeartbeats 8000000 in
set_option maxRecDepth 100000 in
theorem best40 (A0 : Option Addr) (c0 : Nat) (l0 : List Int) (A1 : Option Addr) (c1 : Nat) (l1 : List (List Int)) (A2 : Option Addr) (c2 : Nat) (l2 : List Int) (A3 : Option Addr) (c3 : Nat) (l3 : List Int) (al : Int) (mf : Int → Int → Int → Int → Int) (W : World)
  (r0 : Kd.C (Kd.int .i64) W A0 l0.length l0) (n0 : l0.length ≤ c0) (r1 : Kd.C (Kd.slice 3 (Kd.int .i64)) W A1 l1.length l1) (n1 : l1.length ≤ c1) (r2 : Kd.C (Kd.int .i64) W A2 l2.length l2) (n2 : l2.length ≤ c2) (r3 : Kd.C (Kd.int .u64) W A3 l3.length l3) (n3 : l3.length ≤ c3)
  (hs : ∀ x ∈ l3, SetB x) (hf : l3.length ≤ 12) (ha : SetB al) (ha1 : 1 ≤ al)
  (hM : ∀ (w : World) (k : Nat) (s z o : Int), Below W.heap.size W w → k < l3.length → SetB s → Calls Tryd.prog 40 #[.agg #[.slice A0 l0.length c0, .slice A1 l1.length c1, .slice A2 l2.length c2, .slice A3 l3.length c3, .int .u64 al], .int .i64 k, .int .u64 s, .int .i64 z, .int .i64 o] w fun e w' => e = .returned (.int .i64 (mf k s z o)) ∧ Below w.heap.size w w') :
  Calls Tryd.prog 59 #[.agg #[.slice A0 l0.length c0, .slice A1 l1.length c1, .slice A2 l2.length c2, .slice A3 l3.length c3, .int .u64 al], .func (.func 40) #[] #[]] W (BPost40 l3 (chs mf l3) al W) := by
 have hE : ∀ go gt gm gf B top, W.heap.size ≤ B ∧ W.heap.size ≤ top → (go < top ∧ gt < top ∧ gm < top ∧ gf < top ∧ B < top) → FOk ⟨W, go, gt, gm, gf, B, top, A0, c0, l0, A1, c1, l1, A2, c2, l2, A3, c3, l3, al, 40⟩ :=
  fun go gt gm gf B top h1 h2 => ⟨r0, n0, r1, n1, r2, n2, r3, n3, h1, h2, hs, hf⟩
 have HE := Aside0.mk hE
 have HM := Aside0.mk hM
 have HA := Aside0.mk ha
 have HA1 := Aside0.mk ha1
 have HS := Aside0.mk hs
 have hmm := @run_makeMap Tryd.prog
 clear r0 r1 r2 r3 hs hf ha ha1 hM hE
 go_enter Tryd.func59, Tryd.ntmps59
 go_upto_region 4 with (fail)
 have hFW := FW.start ⟨W, W.heap.size + 1 + 1 + 1, W.heap.size, W.heap.size + 1, W.heap.size + 1 + 1 + 1 + 1, W.heap.size + 1 + 1, W.heap.size + 1 + 1 + 1 + 1 + 1, A0, c0, l0, A1, c1, l1, A2, c2, l2, A3, c3, l3, al, 40⟩ (chs mf l3) rfl rfl rfl rfl rfl rfl
 have HFW := Aside0.mk hFW
 clear hFW
 have HFA := Aside0.mk (find_all40 ⟨W, W.heap.size + 1 + 1 + 1, W.heap.size, W.heap.size + 1, W.heap.size + 1 + 1 + 1 + 1, W.heap.size + 1 + 1, W.heap.size + 1 + 1 + 1 + 1 + 1, A0, c0, l0, A1, c1, l1, A2, c2, l2, A3, c3, l3, al, 40⟩ (chs mf l3) mf (HE.out _ _ _ _ _ _ (by omega) (by omega)) HM.out rfl (fun s h1 _ => chs_eq mf l3 HS.out s h1) al.toNat al HA.out HA1.out (Nat.le_refl _) _ KMap.empty HFW.out)
 go_wp2_with (go_at_call 72; refine (HFA.out).mono ?_; rintro e w9 ⟨g9, rfl, hfw, hgr, hle, hdn⟩; have HFW9 := Aside0.mk hfw; have HDN := Aside0.mk hdn; have hcz : w9.cell? ⟨W.heap.size + 1 + 1 + 1, 0, none⟩ = some (.map (some (W.heap.size + 1 + 1))) := (blk_cell hfw.bo 0).trans rfl; clear hfw hgr hle hdn)
 go_ret
 exact ⟨_, g9, rfl, HFW9.out.mp, by show W.heap.size ≤ W.heap.size + 1 + 1; omega, HFW9.out.bl, HDN.out, HFW9.out.gd⟩
end Go.Proofs.YtekmiepdodaidaaDoor.X
end

section
/- Layer 7, plain: the plan of a choice of tests, as the list of its nodes. -/
set_option linter.unusedVariables false
namespace Go.Proofs.YtekmiepdodaidaaDoor.X
open Go.RowKit Go.Proofs.YtekmiepdodaidaaDoorW.PrintWords Go.Proofs.YtekmiepdodaidaaDoorW.PrintLast Go.Proofs.YtekmiepdodaidaaDoorW.PrintMore

def tzB (s : Int) : Int := (Lib.ctz 64 s.toNat : Nat)
/-- The nodes of the plan of s, the first of which stands at place p. -/
def treeF (tf : Int → Int) (ones : List Int) : Nat → Int → Nat → List S57
 | 0, _, _ => []
 | d + 1, s, p => if pcount s = 1 then [⟨-1, tzB s, 0, 0⟩] else
   let z := treeF tf ones d (bSub s (rd ones (tf s))) (p + 1)
   ⟨tf s, 0, ((p + 1 : Nat) : Int), ((p + 1 + z.length : Nat) : Int)⟩ :: (z ++ treeF tf ones d (bAnd s (rd ones (tf s))) (p + 1 + z.length))
def treeB (tf : Int → Int) (ones : List Int) (s : Int) (p : Nat) : List S57 := treeF tf ones (s.toNat + 1) s p
/-- The sets that a plan comes to: each is divided by its test, or is one fault. -/
structure Runs (tf : Int → Int) (ones : List Int) (R : Int → Prop) : Prop where
 set : ∀ s, R s → SetB s ∧ 1 ≤ s
 test : ∀ s, R s → pcount s ≠ 1 → 0 ≤ tf s ∧ tf s < ones.length ∧ SetB (rd ones (tf s)) ∧ splitB s (rd ones (tf s)) = true ∧ R (bSub s (rd ones (tf s))) ∧ R (bAnd s (rd ones (tf s)))
section
variable {tf : Int → Int} {ones : List Int} {R : Int → Prop} (H : Runs tf ones R)
include H
theorem treeF_stable : ∀ (d : Nat) (s : Int) (p : Nat), R s → s.toNat < d → treeF tf ones d s p = treeF tf ones (d + 1) s p
 | 0, s, p, _, h => absurd h (Nat.not_lt_zero _)
 | d + 1, s, p, hR, h => by
  have hs := H.set s hR
  unfold SetB at hs
  unfold treeF
  by_cases h1 : pcount s = 1
  ·rw [if_pos h1, if_pos h1]
  ·rw [if_neg h1, if_neg h1]
   obtain ⟨t0, t1, t2, t3, t4, t5⟩ := H.test s hR h1
   obtain ⟨⟨a1, a2⟩, b1, b2⟩ := split_parts (H.set s hR).1 t2 t3
   rw [treeF_stable d (bSub s (rd ones (tf s))) (p + 1) t4 (by omega)]
   dsimp only
   rw [treeF_stable d (bAnd s (rd ones (tf s))) _ t5 (by omega)]
theorem treeF_more (s : Int) (p : Nat) (hR : R s) (d : Nat) (hd : s.toNat < d) : treeF tf ones d s p = treeB tf ones s p := by
 unfold treeB
 obtain ⟨e, rfl⟩ : ∃ e, d = s.toNat + 1 + e := ⟨d - (s.toNat + 1), by omega⟩
 clear hd
 induction e with
 | zero => rfl
 | succ e ih => rw [← ih]; exact (treeF_stable H (s.toNat + 1 + e) s p hR (by omega)).symm
omit H in
theorem treeB_one (s : Int) (p : Nat) (h1 : pcount s = 1) : treeB tf ones s p = [⟨-1, tzB s, 0, 0⟩] := by
 unfold treeB treeF; rw [if_pos h1]
theorem treeB_two (s : Int) (p : Nat) (hR : R s) (h1 : pcount s ≠ 1) : treeB tf ones s p =
  ⟨tf s, 0, ((p + 1 : Nat) : Int), ((p + 1 + (treeB tf ones (bSub s (rd ones (tf s))) (p + 1)).length : Nat) : Int)⟩ :: (treeB tf ones (bSub s (rd ones (tf s))) (p + 1) ++ treeB tf ones (bAnd s (rd ones (tf s))) (p + 1 + (treeB tf ones (bSub s (rd ones (tf s))) (p + 1)).length)) := by
 have hs := H.set s hR
 unfold SetB at hs
 obtain ⟨t0, t1, t2, t3, t4, t5⟩ := H.test s hR h1
 obtain ⟨⟨a1, a2⟩, b1, b2⟩ := split_parts (H.set s hR).1 t2 t3
 have k1 : (bSub s (rd ones (tf s))).toNat < s.toNat := by omega
 have k2 : (bAnd s (rd ones (tf s))).toNat < s.toNat := by omega
 show treeF tf ones (s.toNat + 1) s p = _
 unfold treeF
 rw [if_neg h1]
 dsimp only
 rw [treeF_more H _ _ t4 s.toNat k1, treeF_more H _ _ t5 s.toNat k2]
theorem treeB_len (d : Nat) : ∀ (s : Int) (p : Nat), R s → s.toNat ≤ d → (treeB tf ones s p).length + 1 ≤ 2 * s.toNat := by
 induction d with
 | zero => intro s p hR h; have hs := (H.set s hR).2; omega
 | succ d ih =>
  intro s p hR h
  have hs := H.set s hR
  by_cases h1 : pcount s = 1
  ·rw [treeB_one s p h1]; simp only [List.length_cons, List.length_nil]; omega
  ·obtain ⟨t0, t1, t2, t3, t4, t5⟩ := H.test s hR h1
   obtain ⟨⟨a1, a2⟩, b1, b2⟩ := split_parts (H.set s hR).1 t2 t3
   have hadd := bSub_add (H.set s hR).1 t2
   have e1 := ih _ (p + 1) t4 (by omega)
   have e2 := ih _ (p + 1 + (treeB tf ones (bSub s (rd ones (tf s))) (p + 1)).length) t5 (by omega)
   rw [treeB_two H s p hR h1, List.length_cons, List.length_append]
   generalize (treeB tf ones (bAnd s (rd ones (tf s))) (p + 1 + (treeB tf ones (bSub s (rd ones (tf s))) (p + 1)).length)).length = m2 at *
   generalize (treeB tf ones (bSub s (rd ones (tf s))) (p + 1)).length = m1 at *
   generalize bSub s (rd ones (tf s)) = u1 at *
   generalize bAnd s (rd ones (tf s)) = u2 at *
   have hs2 := hs.2
   clear ih H hs t2 t3 t4 t5 h1
   omega
end
end Go.Proofs.YtekmiepdodaidaaDoor.X
end

section
/- (trial).plan's closure add, by hand: where its variables lie, and what it does to the list of nodes. -/
set_option linter.unusedVariables false
set_option linter.unusedSimpArgs false
namespace Go.Proofs.YtekmiepdodaidaaDoor.X
open Go.RowKit Go.Proofs.YtekmiepdodaidaaDoorW.PrintWords Go.Proofs.YtekmiepdodaidaaDoorW.PrintLast Go.Proofs.YtekmiepdodaidaaDoorW.PrintMore

structure PEnv where
 W0 : World
 go : Nat
 gs : Nat
 ga : Nat
 gt : Nat
 gq : Nat
 A0 : Option Addr
 c0 : Nat
 l0 : List Int
 A1 : Option Addr
 c1 : Nat
 l1 : List (List Int)
 A2 : Option Addr
 c2 : Nat
 l2 : List Int
 A3 : Option Addr
 c3 : Nat
 l3 : List Int
 al : Int
 F : Nat
def PEnv.cells (E : PEnv) : Array Value := #[.slice E.A0 E.l0.length E.c0, .slice E.A1 E.l1.length E.c1, .slice E.A2 E.l2.length E.c2, .slice E.A3 E.l3.length E.c3, .int .u64 E.al]
def PEnv.ptrs (E : PEnv) : Array Value := #[.pointer (some ⟨E.go, 0, none⟩), .pointer (some ⟨E.gs, 0, none⟩), .pointer (some ⟨E.ga, 0, none⟩), .pointer (some ⟨E.gt, 0, none⟩)]
def PEnv.fv (E : PEnv) : Value := .func (.func E.F) #[] #[.pointer (some ⟨E.gq, 0, none⟩)]
structure POk (E : PEnv) : Prop where
 r3 : Kd.C (Kd.int .u64) E.W0 E.A3 E.l3.length E.l3
 n3 : E.l3.length ≤ E.c3
 lt : E.W0.heap.size ≤ E.go
 tab : Tab E.W0
/-- The nodes so far are xs. -/
structure PW (E : PEnv) (W : World) (v : Value) (xs : List S57) : Prop where
 bo : W.heap[E.go]? = some (.cells #[v] 27 (0, 0))
 bs : W.heap[E.gs]? = some (.cells #[E.fv] 86 (0, 0))
 ba : W.heap[E.ga]? = some (.cells #[.func (.func 68) #[] E.ptrs] 86 (0, 0))
 bt : W.heap[E.gt]? = some (.cells E.cells 77 (0, 0))
 rw : Kd.R k57 57 W E.W0.heap.size (fun _ => True) v xs
 bl : Below E.W0.heap.size E.W0 W
theorem PW.below {E : PEnv} {W W' : World} {v : Value} {xs : List S57} (h : PW E W v xs) (hb : Below W.heap.size W W') : PW E W' v xs :=
 ⟨(hb.block _ (blk_lt h.bo)).trans h.bo, (hb.block _ (blk_lt h.bs)).trans h.bs, (hb.block _ (blk_lt h.ba)).trans h.ba, (hb.block _ (blk_lt h.bt)).trans h.bt, Kd.R_below h.rw hb, h.bl.trans (hb.mono h.bl.size)⟩
theorem PW.tab {E : PEnv} {W : World} {v : Value} {xs : List S57} (hE : POk E) (h : PW E W v xs) : Tab W := hE.tab.below h.bl
/-- The new list is stored. -/
theorem PW.put {E : PEnv} {W w1 : World} {v v1 : Value} {xs ys : List S57} (hE : POk E) (h : PW E W v xs) (hr : Kd.R k57 57 w1 E.W0.heap.size (fun _ => True) v1 ys) (hb : Below E.W0.heap.size E.W0 w1) (hg : W.grownBy w1 v.ownBlock) : PW E (w1.setCell ⟨E.go, 0, none⟩ v1) v1 ys := by
 have e1 := blk_grown h.bo hg (Kd.R_ne h.rw h.bo (by decide))
 have e2 := blk_grown h.bs hg (Kd.R_ne h.rw h.bs (by decide))
 have e3 := blk_grown h.ba hg (Kd.R_ne h.rw h.ba (by decide))
 have e4 := blk_grown h.bt hg (Kd.R_ne h.rw h.bt (by decide))
 exact ⟨(blk_set e1 0 v1).trans rfl, blk_far e2 (blk_ne h.bs h.bo (by decide)) _, blk_far e3 (blk_ne h.ba h.bo (by decide)) _, blk_far e4 (blk_ne h.bt h.bo (by decide)) _, Kd.R_set hr e1 (by decide) 0 v1, hb.setCell hE.lt _⟩
/-- What add returns at a set: its first node's place; its nodes are added. -/
def APost (E : PEnv) (tf : Int → Int) (s : Int) (xs : List S57) (e : Ending) (w' : World) : Prop :=
 ∃ v', e = .returned (.int .i64 (xs.length : Nat)) ∧ PW E w' v' (xs ++ treeB tf E.l3 s xs.length)
theorem info57t : (Tryd.prog.info? 57).map (fun i => (i.zero, i.size, i.bytes)) = some (some (.agg #[(.int .i64 0), (.int .i64 0), (.int .i64 0), (.int .i64 0)]), 4, 32) := by kernel_rfl
set_option maxHeartbeats 4000000 in
set_option maxRecDepth 100000 in
theorem add_one (E : PEnv) (tf : Int → Int) (s : Int) (hs : SetB s) (hs1 : 1 ≤ s) (hp : pcount s = 1) (W : World) (v : Value) (xs : List S57) (hE : POk E) (h : PW E W v xs) (hl : xs.length ≤ 4096) :
  Calls Tryd.prog 68 #[.int .u64 s, .pointer (some ⟨E.go, 0, none⟩), .pointer (some ⟨E.gs, 0, none⟩), .pointer (some ⟨E.ga, 0, none⟩), .pointer (some ⟨E.gt, 0, none⟩)] W (APost E tf s xs) := by
 have HW := Aside0.mk h
 have HE := Aside0.mk hE
 have HS := Aside0.mk hs
 have HS1 := Aside0.mk hs1
 have HP := Aside0.mk hp
 have c1 : (pcount s == 1) = true := by simp [hp]
 obtain ⟨A, c, rfl⟩ := Kd.R_slice h.rw
 have hcz : W.cell? ⟨E.go, 0, none⟩ = some (.slice A xs.length c) := (blk_cell h.bo 0).trans rfl
 clear h hs hs1 hp
 go_enter Tryd.func68, Tryd.ntmps68
 go_upto_region 3 with (go_at_call 69; refine (ones_n _ (u64_id HS.out) _).mono ?_; rintro e w' ⟨rfl, rfl⟩)
 obtain ⟨x, hx⟩ : ∃ x : Nat, s = x := ⟨s.toNat, by have := HS1.out; omega⟩
 subst hx
 have HX := Aside0.mk (show x < 18446744073709551616 ∧ x ≠ 0 by have h1 := HS1.out; have h2 := HS.out; unfold SetB at h2; omega)
 have HL := Aside0.mk hl
 clear hl
 refine start_ (n := 7) (S := fun w' => w'.cell? ⟨E.go, 0, none⟩ = some (.slice A xs.length c)) (ds := [5, 6]) #[false, false, false, false, false, false, false] (by kernel_rfl) rfl rfl hcz (fun hHeld => ?_)
 refine take_ (i := 0) (N := (some 16)) (v := ?_) (a' := ?_) #[true, false, false, false, false, false, false] rfl rfl (by kernel_rfl) (fun _ _ _ h => h) (Or.inl ⟨by rfl, ?_⟩) hHeld ?_ ?_
 rotate_left
 ·rintro w' s0
  go_simp
  with_reducible rfl
 rotate_left
 ·simp only [Act.put, List.setIfInBounds_toArray, List.set_cons_zero, List.set_cons_succ, i64_w, i32_w]
  rfl
 refine pure_ (i := 1) (N := (some 17)) (v := ?_) (a' := ?_) #[true, true, false, false, false, false, false] rfl rfl (by kernel_rfl) (fun _ _ _ h => h) (Or.inl ⟨by rfl, ?_⟩) ?_ ?_
 rotate_left
 ·intro w'
  go_simp
  with_reducible rfl
 rotate_left
 ·simp only [Act.put, List.setIfInBounds_toArray, List.set_cons_zero, List.set_cons_succ, i64_w, i32_w]
  rfl
 refine one_ (i := 2) (N := (some 18)) #[true, true, true, false, false, false, false] rfl rfl (by kernel_rfl) (by decide) (fun K hK => ?_)
 refine goes_ Tryd.func70 (by kernel_rfl) rfl #[.int .u64 (x : Int)] (by rfl) rfl rfl (by (try simp only [List.map_toArray, List.map_cons, List.map_nil]); first | done | rfl) ?_
 refine (tz_n x HX.out.1 HX.out.2 _ ((HW.out.tab HE.out).below (below_drew (Below.refl _ _)))).mono ?_
 rintro e w' ⟨rfl, rfl⟩
 refine ⟨_, rfl, ?_⟩
 refine hK.out _ _ hHeld (fun hHeld => ?_)
 clear hK K
 refine norm_ (a' := ?_) ?_ ?_
 rotate_left
 ·show Act.put _ (some 18) _ = _
  simp only [Act.put, List.setIfInBounds_toArray, List.set_cons_zero, List.set_cons_succ, i64_w, i32_w]
  rfl
 refine pure_ (i := 3) (N := (some 19)) (v := ?_) (a' := ?_) #[true, true, true, true, false, false, false] rfl rfl (by kernel_rfl) (fun _ _ _ h => h) (Or.inl ⟨by rfl, ?_⟩) ?_ ?_
 rotate_left
 ·intro w'
  go_simp
  with_reducible rfl
 rotate_left
 ·simp only [Act.put, List.setIfInBounds_toArray, List.set_cons_zero, List.set_cons_succ, i64_w, i32_w]
  rfl
 refine one_ (i := 4) (N := (some 20)) #[true, true, true, true, true, false, false] rfl rfl (by kernel_rfl) (by decide) (fun K hK => ?_)
 refine value_ (w1 := ?_) (v := ?_) (by rfl) rfl ?_ ?_
 rotate_left 2
 ·go_simp
  constructor
  ·rfl
  ·rfl
 refine hK.out _ _ (pw_cell_below (below_alloc (Below.refl _ _) _) hHeld) (fun hHeld => ?_)
 clear hK K
 refine norm_ (a' := ?_) ?_ ?_
 rotate_left
 ·show Act.put _ (some 20) _ = _
  simp only [Act.put, List.setIfInBounds_toArray, List.set_cons_zero, List.set_cons_succ, i64_w, i32_w]
  rfl
 refine last_ (i := 5) (N := (some 21)) #[true, true, true, true, true, true, false] rfl rfl (by kernel_rfl) (by decide) (fun K hK => ?_)
 refine Kd.R_append_step k57 (w0 := E.W0) E.W0.heap.size (by rfl) (.tmp 16) (.tmp 20) 27 57 (.agg #[(.int .i64 0), (.int .i64 0), (.int .i64 0), (.int .i64 0)]) 32 rfl Tryd.underlying27 info57t rfl (by decide) (by omega) (.slice A xs.length c) xs (⟨-1, (Lib.ctz 64 x : Nat), 0, 0⟩ : S57) [.int .i64 (-1), .int .i64 (Lib.ctz 64 x : Nat), .int .i64 0, .int .i64 0] (fun _ => True) (fun _ => False) rfl rfl (k57_mkM _ _ _ _) (fun _ hk => hk.elim) (fun _ _ => trivial) (Kd.R_drew HW.out.rw) (below_drew HW.out.bl) HW.out.bl.size (by have := HL.out; omega) ?_
 intro v1 w1 ho hb hg hat
 obtain ⟨A1, c1', rfl⟩ := Kd.R_slice ho
 have HPW := Aside0.mk (PW.put HE.out (HW.out.below (below_drew (Below.refl _ _))) ho hb hg)
 have e1 := blk_grown (HW.out.below (below_drew (Below.refl _ _))).bo hg (Kd.R_ne (HW.out.below (below_drew (Below.refl _ _))).rw (HW.out.below (below_drew (Below.refl _ _))).bo (by decide))
 have hcz1 : w1.cell? ⟨E.go, 0, none⟩ = some (.slice A xs.length c) := (blk_cell e1 0).trans rfl
 have hfz1 := blk_frozen e1 0
 have HPF := Aside0.mk (show PW E _ _ (xs ++ treeB tf E.l3 (x : Int) xs.length) by rw [treeB_one _ _ HP.out]; exact HPW.out)
 have hlen : ∀ z : S57, (xs ++ [z]).length = xs.length + 1 := fun z => by simp
 rw [hlen] at HPF
 clear HPW hlen
 clear ho hb hg hat e1
 refine hK.out _ _ ?_
 clear hK K
 refine norm_ (a' := ?_) ?_ ?_
 rotate_left
 ·show Act.put _ (some 21) _ = _
  simp only [Act.put, List.setIfInBounds_toArray, List.set_cons_zero, List.set_cons_succ, i64_w, i32_w]
  rfl
 refine last_ (i := 6) (N := none) #[true, true, true, true, true, true, true] rfl rfl (by kernel_rfl) (by decide) (fun K hK => ?_)
 refine skip_ (w1 := ?_) (by rfl) rfl ?_ ?_
 rotate_left
 ·go_simp
  rfl
 refine hK.out _ _ ?_
 clear hK K
 refine done_ (by kernel_rfl) ?_
 go_wp2
 go_ret
 exact ⟨_, rfl, HPF.out⟩
theorem keepGo {w : World} {a g i : Nat} {v u : Value} (h : w.cell? ⟨a, 0, none⟩ = some v) (hne : a ≠ g) : (w.setCell ⟨g, i, none⟩ u).drew.cell? ⟨a, 0, none⟩ = some v :=
 (World.cell?_of_block (w := w) (w' := (w.setCell ⟨g, i, none⟩ u).drew) (a := ⟨a, 0, none⟩) (Below.heap_setCell w ⟨g, i, none⟩ u a hne)).trans h
theorem keepGo2 {w : World} {a g i j : Nat} {v u u2 : Value} (h : w.cell? ⟨a, 0, none⟩ = some v) (hne : a ≠ g) : ((w.setCell ⟨g, i, none⟩ u).setCell ⟨g, j, none⟩ u2).drew.cell? ⟨a, 0, none⟩ = some v := keepGo (keepGo (w := w) h hne) hne
theorem node_put {base : Nat} {W : World} {g n cap : Nat} {ys : List S57} {i : Nat} (h : Kd.R k57 57 W base (fun _ => True) (.slice (some ⟨g, 0, none⟩) n cap) ys) (hi : i < ys.length) (f : S57) (hf : ys.getD i z57 = f) (z o : Int) :
  (W.cell? ⟨g, i * 4 + 2, none⟩ = some (.int .i64 f.f2) ∧ W.cell? ⟨g, i * 4 + 3, none⟩ = some (.int .i64 f.f3) ∧ W.frozen? ⟨g, i * 4 + 2, none⟩ = false ∧ W.frozen? ⟨g, i * 4 + 3, none⟩ = false) ∧
   Kd.R k57 57 ((W.setCell ⟨g, i * 4 + 2, none⟩ (.int .i64 z)).setCell ⟨g, i * 4 + 3, none⟩ (.int .i64 o)) base (fun _ => True) (.slice (some ⟨g, 0, none⟩) n cap) (ys.set i ⟨f.f0, f.f1, z, o⟩) ∧ W.grownBy ((W.setCell ⟨g, i * 4 + 2, none⟩ (.int .i64 z)).setCell ⟨g, i * 4 + 3, none⟩ (.int .i64 o)) (some g) := by
 obtain ⟨hn, _, _⟩ := Kd.R_reads' h
 obtain ⟨c, hcl, hM, hcc, hfz⟩ := Kd.R_elem h z57 (i : Int) (by omega) (by omega)
 simp only [Int.toNat_natCast] at hM hcc hfz
 rw [hf] at hM
 have hc := k57_openM hM
 subst hc
 refine ⟨⟨hcc 2 _ rfl, hcc 3 _ rfl, hfz 2, hfz 3⟩, ?_⟩
 have := Kd.R_seg (okp := fun _ => False) h (i : Int) (by omega) (by omega) (c := [.int .i64 f.f0, .int .i64 f.f1, .int .i64 f.f2, .int .i64 f.f3]) (seg := [.int .i64 z, .int .i64 o]) (j := 2) hcl (by simpa only [Int.toNat_natCast] using hcc) (by show 2 + 2 ≤ 4; omega) (x' := ⟨f.f0, f.f1, z, o⟩) (k57_mkM _ _ _ ⟨f.f0, f.f1, z, o⟩) (fun _ hk => hk.elim)
 simp only [Int.toNat_natCast] at this
 exact this
/-- The two links of a node are stored. -/
theorem PW.node {E : PEnv} {W W' : World} {v : Value} {xs ys : List S57} {g : Nat} (hE : POk E) (h : PW E W v xs) (hg : v.ownBlock = some g) (hr : Kd.R k57 57 W' E.W0.heap.size (fun _ => True) v ys) (hG : W.grownBy W' (some g)) : PW E W' v ys := by
 have hne : ∀ {b : Nat} {t : Nat} {cs : Array Value}, W.heap[b]? = some (.cells cs t (0, 0)) → 57 ≠ t → some b ≠ some g := fun hb ht => by rw [← hg]; exact Kd.R_ne h.rw hb ht
 exact ⟨blk_grown h.bo hG (hne h.bo (by decide)), blk_grown h.bs hG (hne h.bs (by decide)), blk_grown h.ba hG (hne h.ba (by decide)), blk_grown h.bt hG (hne h.bt (by decide)), hr, h.bl.grown hG h.bl.size (fun k e => by injection e with e; subst e; exact Kd.R_base h.rw _ hg)⟩
theorem blk_4 (w : World) (o1 o2 o3 o4 : Obj) : ((((w.alloc o1).alloc o2).alloc o3).alloc o4).heap[w.heap.size]? = some o1 ∧ ((((w.alloc o1).alloc o2).alloc o3).alloc o4).heap[w.heap.size + 1]? = some o2 ∧ ((((w.alloc o1).alloc o2).alloc o3).alloc o4).heap[w.heap.size + 1 + 1]? = some o3 ∧ ((((w.alloc o1).alloc o2).alloc o3).alloc o4).heap[w.heap.size + 1 + 1 + 1]? = some o4 := by
 refine ⟨blk_alloc (blk_alloc (blk_alloc (blk_new w o1) o2) o3) o4, ?_, ?_, ?_⟩
 ·have := blk_alloc (blk_alloc (blk_new (w.alloc o1) o2) o3) o4
  rwa [size_alloc'] at this
 ·have := blk_alloc (blk_new ((w.alloc o1).alloc o2) o3) o4
  rwa [size_alloc', size_alloc'] at this
 ·have := blk_new (((w.alloc o1).alloc o2).alloc o3) o4
  rwa [size_alloc', size_alloc', size_alloc'] at this
theorem PW.start (E : PEnv) (h1 : E.gt = E.W0.heap.size) (h2 : E.gs = E.W0.heap.size + 1) (h3 : E.go = E.W0.heap.size + 1 + 1) (h4 : E.ga = E.W0.heap.size + 1 + 1 + 1) :
  PW E ((((E.W0.alloc (.cells E.cells 77 (0, 0))).alloc (.cells #[E.fv] 86 (0, 0))).alloc (.cells #[.slice none 0 0] 27 (0, 0))).alloc (.cells #[.func (.func 68) #[] E.ptrs] 86 (0, 0))) (.slice none 0 0) [] := by
 obtain ⟨b1, b2, b3, b4⟩ := blk_4 E.W0 (.cells E.cells 77 (0, 0)) (.cells #[E.fv] 86 (0, 0)) (.cells #[.slice none 0 0] 27 (0, 0)) (.cells #[.func (.func 68) #[] E.ptrs] 86 (0, 0))
 exact ⟨by rw [h3]; exact b3, by rw [h2]; exact b2, by rw [h4]; exact b4, by rw [h1]; exact b1, Kd.R_nil _ _ _ _ _, below_alloc (below_alloc (below_alloc (below_alloc (Below.refl _ _) _) _) _) _⟩
/-- What plan returns: the nodes, in memory of their own. -/
def PPost (l : List S57) (W : World) (e : Ending) (w' : World) : Prop := ∃ v, e = .returned v ∧ Kd.R k57 57 w' W.heap.size (fun _ => True) v l ∧ Below W.heap.size W w'
def AllPost (l : List S57) (W : World) (e : Ending) (w' : World) : Prop := ∃ v, e = .returned (.int .i64 0) ∧ w'.heap[W.heap.size + 1 + 1]? = some (.cells #[v] 27 (0, 0)) ∧ Kd.R k57 57 w' W.heap.size (fun _ => True) v l ∧ Below W.heap.size W w'
theorem all_post {E : PEnv} {tf : Int → Int} {al : Int} {e : Ending} {w' : World} (h : APost E tf al [] e w') (hgo : E.go = E.W0.heap.size + 1 + 1 := by rfl) : AllPost (treeB tf E.l3 al 0) E.W0 e w' := by
 obtain ⟨v, h1, h2⟩ := h
 have h3 := h2.rw
 rw [List.nil_append, List.length_nil] at h3
 rw [List.length_nil] at h1
 have h4 := h2.bo
 rw [hgo] at h4
 exact ⟨v, h1, h4, h3, h2.bl⟩
end Go.Proofs.YtekmiepdodaidaaDoor.X
end

section
/- (trial).plan's closure add, by hand: the step, with the test that function 60 selects; and plan itself. -/
set_option linter.unusedVariables false
set_option linter.unusedSimpArgs false
namespace Go.Proofs.YtekmiepdodaidaaDoor.X
open Go.RowKit Go.Proofs.YtekmiepdodaidaaDoorW.PrintWords Go.Proofs.YtekmiepdodaidaaDoorW.PrintLast Go.Proofs.YtekmiepdodaidaaDoorW.PrintMore

theorem adds_mk60 {E : PEnv} {W : World} {v : Value} {xs : List S57} {ad : Addr} {k : Nat} {x : Int} (hE : POk E) (h : PW E W v xs) (e1 : E.A3 = some ad) (hx : E.W0.cell? (ad.add k) = some (.int .u64 x)) :
  W.cell? ⟨E.ga, 0, none⟩ = some (.func (.func 68) #[] #[.pointer (some ⟨E.go, 0, none⟩), .pointer (some ⟨E.gs, 0, none⟩), .pointer (some ⟨E.ga, 0, none⟩), .pointer (some ⟨E.gt, 0, none⟩)]) ∧ W.cell? ⟨E.gt, 3, none⟩ = some (.slice (some ad) E.l3.length E.c3) ∧ W.cell? (ad.add k) = some (.int .u64 x) :=
 ⟨(blk_cell h.ba 0).trans rfl, by rw [← e1]; exact (blk_cell h.bt 3).trans rfl, pw_cell_below h.bl hx⟩
set_option maxHeartbeats 8000000 in
set_option maxRecDepth 100000 in
theorem add_step60 (E : PEnv) (tf : Int → Int) (R : Int → Prop) (H : Runs tf E.l3 R) (hF : E.F = 60) (s : Int) (hR : R s) (hp : pcount s ≠ 1) (W : World) (v : Value) (xs : List S57) (hE : POk E) (h : PW E W v xs) (hl : xs.length + 2 * s.toNat ≤ 4096)
  (hT : ∀ W, Below E.W0.heap.size E.W0 W → Calls Tryd.prog 60 #[.int .u64 s, .pointer (some ⟨E.gq, 0, none⟩)] W fun e w' => e = .returned (.int .i64 (tf s)) ∧ Below W.heap.size W w')
  (ih : ∀ u, R u → u < s → ∀ W v xs, PW E W v xs → xs.length + 2 * u.toNat ≤ 4096 → Calls Tryd.prog 68 #[.int .u64 u, .pointer (some ⟨E.go, 0, none⟩), .pointer (some ⟨E.gs, 0, none⟩), .pointer (some ⟨E.ga, 0, none⟩), .pointer (some ⟨E.gt, 0, none⟩)] W (APost E tf u xs)) :
  Calls Tryd.prog 68 #[.int .u64 s, .pointer (some ⟨E.go, 0, none⟩), .pointer (some ⟨E.gs, 0, none⟩), .pointer (some ⟨E.ga, 0, none⟩), .pointer (some ⟨E.gt, 0, none⟩)] W (APost E tf s xs) := by
 have HW := Aside0.mk h
 have HE := Aside0.mk hE
 have HH := Aside0.mk H
 have HR := Aside0.mk hR
 have HS := Aside0.mk (H.set s hR).1
 have HS1 := Aside0.mk (H.set s hR).2
 have HP := Aside0.mk hp
 have HT := Aside0.mk hT
 have IH := Aside0.mk ih
 have HL := Aside0.mk hl
 have c1 : (pcount s == 1) = false := by simp [hp]
 obtain ⟨t0, t1, t2, t3, t4, t5⟩ := H.test s hR hp
 obtain ⟨tk, htk⟩ : ∃ tk : Nat, tf s = tk := ⟨(tf s).toNat, by omega⟩
 obtain ⟨x, hx⟩ : ∃ x, rd E.l3 (tk : Int) = x := ⟨_, rfl⟩
 rw [htk, hx] at t2 t3 t4 t5
 have hparts := split_parts (H.set s hR).1 t2 t3
 have hadd := bSub_add (H.set s hR).1 t2
 obtain ⟨ad, e1, hcx⟩ := Kd.at_int hE.r3 (tk : Int) (by omega) (by omega)
 simp only [Int.toNat_natCast] at hcx
 rw [hx] at hcx
 obtain ⟨sa, hsa⟩ : ∃ sa, Go.bits .and .u64 s x = sa := ⟨_, rfl⟩
 obtain ⟨sb, hsb⟩ : ∃ sb, Go.bits .andNot .u64 s x = sb := ⟨_, rfl⟩
 have HSA := Aside0.mk (show bAnd s x = sa from hsa)
 have HSB := Aside0.mk (show bSub s x = sb from hsb)
 rw [HSA.out, HSB.out] at hparts hadd
 rw [HSA.out] at t5
 rw [HSB.out] at t4
 have HPA := Aside0.mk hparts
 have HAD := Aside0.mk hadd
 have HRA := Aside0.mk t5
 have HRB := Aside0.mk t4
 have HTK := Aside0.mk htk
 have HX := Aside0.mk hx
 have HCX := Aside0.mk hcx
 have E1 := Aside0.mk e1
 have htl : (tk : Int) < E.l3.length := by omega
 have htl' : tk < E.l3.length := by omega
 have hm3 := Kd.C_max hE.r3
 obtain ⟨A, c, rfl⟩ := Kd.R_slice h.rw
 have hcz : W.cell? ⟨E.go, 0, none⟩ = some (.slice A xs.length c) := (blk_cell h.bo 0).trans rfl
 have hcs : W.cell? ⟨E.gs, 0, none⟩ = some (.func (.func 60) #[] #[.pointer (some ⟨E.gq, 0, none⟩)]) := by rw [← hF]; exact (blk_cell h.bs 0).trans rfl
 have hT' := hT
 rw [htk] at hT'
 have HT := Aside0.mk hT'
 clear h H hR hp hT hT' ih hl t0 t1 t2 t3 t4 t5 htk hx hparts hadd hcx e1
 go_enter Tryd.func68, Tryd.ntmps68
 go_upto_region 6 with (first | (go_at_call 69; refine (ones_n _ (u64_id HS.out) _).mono ?_; rintro e w' ⟨rfl, rfl⟩) | (go_at_call 60; refine (HT.out _ HW.out.bl).mono ?_; rintro e w1 ⟨rfl, hb⟩; have HW1 := Aside0.mk (HW.out.below hb); clear hb))
 clear hcz
 have hcz : w1.cell? ⟨E.go, 0, none⟩ = some (.slice A xs.length c) := (blk_cell HW1.out.bo 0).trans rfl
 obtain ⟨x1, hx1⟩ : ∃ x1, x1 = xs ++ [(⟨tk, 0, 0, 0⟩ : S57)] := ⟨_, rfl⟩
 have hlen1 : x1.length = xs.length + 1 := by rw [hx1]; simp
 have HX1 := Aside0.mk hx1
 have HLEN1 := Aside0.mk hlen1
 clear hlen1
 go_upto_region 7 with (at_builtin; go_loud (refine Kd.R_append k57 (w0 := E.W0) E.W0.heap.size rfl (.tmp 26) (.tmp 29) 27 57 (.agg #[(.int .i64 0), (.int .i64 0), (.int .i64 0), (.int .i64 0)]) 32 rfl Tryd.underlying27 info57t rfl (by decide) (by omega) (.slice A xs.length c) xs (⟨tk, 0, 0, 0⟩ : S57) [.int .i64 tk, .int .i64 0, .int .i64 0, .int .i64 0] (fun _ => True) (fun _ => False) rfl rfl ?aP (fun _ hk => hk.elim) (fun _ _ => trivial) ?aO ?aB ?aS ?aL ?_); go_loud (case aP => exact k57_mkM _ _ _ _); go_loud (case aO => exact HW1.out.rw); go_loud (case aB => exact HW1.out.bl); go_loud (case aS => exact HW1.out.bl.size); go_loud (case aL => have h1 := HL.out; omega); intro v1 w2 ho hb hg hat; obtain ⟨A1, n1, rfl⟩ := Kd.R_slice ho; rw [← hx1] at ho; rw [← hx1]; have HPW := Aside0.mk (PW.put HE.out HW1.out ho hb hg); have e1 := blk_grown HW1.out.bo hg (Kd.R_ne HW1.out.rw HW1.out.bo (by decide)); clear hcz; have hcz1 : w2.cell? ⟨E.go, 0, none⟩ = some (.slice A xs.length c) := (blk_cell e1 0).trans rfl; have hfz1 := blk_frozen e1 0; clear ho hb hg hat e1 hx1)
 clear hcz1 hfz1
 generalize (w2.setCell ⟨E.go, 0, none⟩ (.slice A1 x1.length n1)) = w3 at HPW ⊢
 have hS := adds_mk60 HE.out HPW.out E1.out HCX.out
 have HLB := Aside0.mk (show x1.length + 2 * sb.toNat ≤ 4096 by have h1 := HL.out; have h2 := HLEN1.out; have h3 := HPA.out; have h4 := HAD.out; omega)
 have HDW := Aside0.mk (HPW.out.below (below_drew (Below.refl _ _)))
 go_region_held3 (fun w' => w'.cell? ⟨E.ga, 0, none⟩ = some (.func (.func 68) #[] #[.pointer (some ⟨E.go, 0, none⟩), .pointer (some ⟨E.gs, 0, none⟩), .pointer (some ⟨E.ga, 0, none⟩), .pointer (some ⟨E.gt, 0, none⟩)]) ∧ w'.cell? ⟨E.gt, 3, none⟩ = some (.slice (some ad) E.l3.length E.c3) ∧ w'.cell? (ad.add tk) = some (.int .u64 x)) (first | exact hS | exact adds_mk60 HE.out HDW.out E1.out HCX.out | exact adds_mk60 HE.out HP9.out E1.out HCX.out)
  ((go_at_call 68; (with_reducible refine (IH.out sb ?side1 ?side2 _ (.slice A1 x1.length n1) x1 ?side3 ?side4).mono ?_); (case side1 => exact HRB.out); (case side2 => exact HPA.out.2.2); (case side3 => exact HDW.out); (case side4 => exact HLB.out); rintro e w9 ⟨v9, rfl, hp9⟩; have HP9 := Aside0.mk hp9; clear hp9))
 obtain ⟨zs, hzs⟩ : ∃ zs, zs = treeB tf E.l3 sb x1.length := ⟨_, rfl⟩
 rw [← hzs] at HP9
 have HZS := Aside0.mk hzs
 have hzl : zs.length + 1 ≤ 2 * sb.toNat := by rw [hzs]; exact treeB_len HH.out sb.toNat sb x1.length HRB.out (Nat.le_refl _)
 obtain ⟨x2, hx2⟩ : ∃ x2, x2 = x1 ++ zs := ⟨_, rfl⟩
 rw [← hx2] at HP9
 have HX2 := Aside0.mk hx2
 have HLEN2 := Aside0.mk (show x2.length = x1.length + zs.length by rw [hx2]; simp)
 have HLA := Aside0.mk (show x2.length + 2 * sa.toNat ≤ 4096 by have h1 := HL.out; have h2 := HLEN1.out; have h3 := HPA.out; have h4 := HAD.out; have h5 := HLEN2.out; omega)
 have HZL := Aside0.mk hzl
 clear hzs hx2 hzl
 obtain ⟨A2, n2, rfl⟩ := Kd.R_slice HP9.out.rw
 go_wp2
 clear hS
 have hS := adds_mk60 HE.out HP9.out E1.out HCX.out
 have HDV := Aside0.mk (HP9.out.below (below_drew (Below.refl _ _)))
 go_region_held3 (fun w' => w'.cell? ⟨E.ga, 0, none⟩ = some (.func (.func 68) #[] #[.pointer (some ⟨E.go, 0, none⟩), .pointer (some ⟨E.gs, 0, none⟩), .pointer (some ⟨E.ga, 0, none⟩), .pointer (some ⟨E.gt, 0, none⟩)]) ∧ w'.cell? ⟨E.gt, 3, none⟩ = some (.slice (some ad) E.l3.length E.c3) ∧ w'.cell? (ad.add tk) = some (.int .u64 x)) (first | exact hS | exact adds_mk60 HE.out HDV.out E1.out HCX.out | exact adds_mk60 HE.out HP10.out E1.out HCX.out)
  ((go_at_call 68; (with_reducible refine (IH.out sa ?side1 ?side2 _ (.slice A2 x2.length n2) x2 ?side3 ?side4).mono ?_); (case side1 => exact HRA.out); (case side2 => exact HPA.out.1.2); (case side3 => exact HDV.out); (case side4 => exact HLA.out); rintro e w10 ⟨v10, rfl, hp10⟩; have HP10 := Aside0.mk hp10; clear hp10))
 obtain ⟨os, hos⟩ : ∃ os, os = treeB tf E.l3 sa x2.length := ⟨_, rfl⟩
 rw [← hos] at HP10
 have HOS := Aside0.mk hos
 obtain ⟨x3, hx3⟩ : ∃ x3, x3 = x2 ++ os := ⟨_, rfl⟩
 rw [← hx3] at HP10
 have HX3 := Aside0.mk hx3
 have hl3 : xs.length < x3.length := by have h1 := HLEN1.out; have h2 := HLEN2.out; rw [hx3]; simp; omega
 have HL3 := Aside0.mk hl3
 obtain ⟨g, n3, rfl, hgb, hgl, cells, hgc⟩ := Kd.R_form HP10.out.rw (by omega)
 have hget : x3.getD xs.length z57 = (⟨tk, 0, 0, 0⟩ : S57) := by
  rw [hx3, HX2.out, HX1.out]; simp [List.getD_eq_getElem?_getD, List.append_assoc]
 obtain ⟨⟨hc2, hc3, hf2, hf3⟩, hRN, hGN⟩ := node_put HP10.out.rw hl3 (⟨tk, 0, 0, 0⟩ : S57) hget (x1.length : Nat) (x2.length : Nat)
 have hfin : x3.set xs.length ⟨tk, 0, ((x1.length : Nat) : Int), ((x2.length : Nat) : Int)⟩ = xs ++ treeB tf E.l3 s xs.length := by
  have h1 := HLEN1.out
  have h2 := HLEN2.out
  rw [treeB_two HH.out s xs.length HR.out HP.out, HTK.out, HX.out, HSA.out, HSB.out, show xs.length + 1 = x1.length by omega, ← HZS.out, show x1.length + zs.length = x2.length by omega, ← hos, hx3, HX2.out, HX1.out]
  simp [List.append_assoc]
 rw [hfin] at hRN
 have HPN := Aside0.mk (PW.node HE.out HP10.out (g := g) rfl hRN hGN)
 have HRN := Aside0.mk hRN
 have HGN := Aside0.mk hGN
 have hcz : w10.cell? ⟨E.go, 0, none⟩ = some (.slice (some ⟨g, 0, none⟩) x3.length n3) := (blk_cell HP10.out.bo 0).trans rfl
 have hgo : E.go ≠ g := fun e => by have := HP10.out.bo; rw [e, hgc] at this; cases this
 have hli : (0 : Int) ≤ (xs.length : Int) := by omega
 have hli3 : (xs.length : Int) < (x3.length : Int) := by omega
 clear hos hx3 hS hRN hGN hget hfin
 go_wp2
 go_region_held3 (fun w' => w'.cell? ⟨E.go, 0, none⟩ = some (.slice (some ⟨g, 0, none⟩) x3.length n3)) (first | exact hcz | exact keepGo hcz hgo | exact keepGo2 hcz hgo)
  (fail)
 go_wp2
 go_ret
 exact ⟨_, rfl, HPN.out.below (below_drew (Below.refl _ _))⟩
theorem add_all60 (E : PEnv) (tf : Int → Int) (R : Int → Prop) (H : Runs tf E.l3 R) (hF : E.F = 60) (hE : POk E)
  (hT : ∀ W, Below E.W0.heap.size E.W0 W → ∀ s, R s → pcount s ≠ 1 → Calls Tryd.prog 60 #[.int .u64 s, .pointer (some ⟨E.gq, 0, none⟩)] W fun e w' => e = .returned (.int .i64 (tf s)) ∧ Below W.heap.size W w') (d : Nat) :
  ∀ u, R u → u.toNat ≤ d → ∀ W v xs, PW E W v xs → xs.length + 2 * u.toNat ≤ 4096 → Calls Tryd.prog 68 #[.int .u64 u, .pointer (some ⟨E.go, 0, none⟩), .pointer (some ⟨E.gs, 0, none⟩), .pointer (some ⟨E.ga, 0, none⟩), .pointer (some ⟨E.gt, 0, none⟩)] W (APost E tf u xs) := by
 induction d with
 | zero => intro u h1 h2; have h3 := H.set u h1; omega
 | succ d ih =>
  intro u h1 h2 W v xs h hl
  have h3 := H.set u h1
  by_cases hp : pcount u = 1
  ·exact add_one E tf u h3.1 h3.2 hp W v xs hE h (by omega)
  ·exact add_step60 E tf R H hF u h1 hp W v xs hE h hl (fun W hb => hT W hb u h1 hp) (fun q q1 q2 W v xs hq => by
    have h4 := H.set q q1
    exact ih q q1 (by omega) W v xs hq)
set_option maxHeartbeats 8000000 in
set_option maxRecDepth 100000 in
theorem plan60 (A0 : Option Addr) (c0 : Nat) (l0 : List Int) (A1 : Option Addr) (c1 : Nat) (l1 : List (List Int)) (A2 : Option Addr) (c2 : Nat) (l2 : List Int) (A3 : Option Addr) (c3 : Nat) (l3 : List Int) (al : Int) (gq : Nat) (tf : Int → Int) (R : Int → Prop) (W : World)
  (r3 : Kd.C (Kd.int .u64) W A3 l3.length l3) (n3 : l3.length ≤ c3) (hTab : Tab W) (H : Runs tf l3 R) (hR : R al)
  (hT : ∀ W', Below W.heap.size W W' → ∀ s, R s → pcount s ≠ 1 → Calls Tryd.prog 60 #[.int .u64 s, .pointer (some ⟨gq, 0, none⟩)] W' fun e w' => e = .returned (.int .i64 (tf s)) ∧ Below W'.heap.size W' w') :
  Calls Tryd.prog 50 #[.agg #[.slice A0 l0.length c0, .slice A1 l1.length c1, .slice A2 l2.length c2, .slice A3 l3.length c3, .int .u64 al], .func (.func 60) #[] #[.pointer (some ⟨gq, 0, none⟩)]] W (PPost (treeB tf l3 al 0) W) := by
 have hE : POk ⟨W, W.heap.size + 1 + 1, W.heap.size + 1, W.heap.size + 1 + 1 + 1, W.heap.size, gq, A0, c0, l0, A1, c1, l1, A2, c2, l2, A3, c3, l3, al, 60⟩ := ⟨r3, n3, (by show W.heap.size ≤ W.heap.size + 1 + 1; omega), hTab⟩
 have hal := H.set al hR
 have hal2 : 2 * al.toNat ≤ 4096 := by have h1 := hal.1; unfold SetB at h1; omega
 have hA := add_all60 ⟨W, W.heap.size + 1 + 1, W.heap.size + 1, W.heap.size + 1 + 1 + 1, W.heap.size, gq, A0, c0, l0, A1, c1, l1, A2, c2, l2, A3, c3, l3, al, 60⟩ tf R H rfl hE hT al.toNat al hR (Nat.le_refl _) _ _ [] (PW.start ⟨W, W.heap.size + 1 + 1, W.heap.size + 1, W.heap.size + 1 + 1 + 1, W.heap.size, gq, A0, c0, l0, A1, c1, l1, A2, c2, l2, A3, c3, l3, al, 60⟩ rfl rfl rfl rfl) (by simpa using hal2)
 have HA := Aside0.mk (hA.mono (R' := AllPost (treeB tf l3 al 0) W) (fun e w' h => all_post h))
 clear hA
 clear r3 hTab H hR hT hE hal hal2
 go_enter Tryd.func50, Tryd.ntmps50
 go_wp2_with (go_at_call 68; refine (HA.out).mono ?_; rintro e w9 ⟨v9, rfl, hp0, hp1, hp2⟩; have HP9 := Aside0.mk (And.intro hp1 hp2); have hcz : w9.cell? ⟨W.heap.size + 1 + 1, 0, none⟩ = some v9 := (blk_cell hp0 0).trans rfl; clear hp0 hp1 hp2)
 go_ret
 exact ⟨_, rfl, HP9.out.1, HP9.out.2⟩
end Go.Proofs.YtekmiepdodaidaaDoor.X
end

section
namespace Go.Proofs.YtekmiepdodaidaaDoor.X
open Go.RowKit Go.Proofs.YtekmiepdodaidaaDoorW.PrintWords Go.Proofs.YtekmiepdodaidaaDoorW.PrintLast Go.Proofs.YtekmiepdodaidaaDoorW.PrintMore
attribute [local go_sem] max2_int min2_int max_two min_two max_three min_three max_four min_four   -- for this text's walks alone
set_option linter.unusedVariables false
set_option linter.unusedSimpArgs false

def tests_within.f (a0 : Int) (a1 : Int) (a2 : Int) : Option (Bool) := if a0 ≥ a1 then (some (decide (a0 ≤ a2))) else (some false)
set_option maxHeartbeats 8000000 in
set_option maxRecDepth 100000 in
theorem tests_within.calls (a0 : Int) (a1 : Int) (a2 : Int) (r : Bool) (w : World) (h : tests_within.f a0 a1 a2 = some r) :
  Calls Tryd.prog 47 #[.int .i64 a0, .int .i64 a1, .int .i64 a2] w fun e w' => e = .returned (.bool r) ∧ Drawn0 w w' := by
 have H : (if a0 ≥ a1 then (some (decide (a0 ≤ a2))) else (some false)) = some r := h
 clear h
 by_cases c4 : a0 ≥ a1
 ·rw [if_pos c4] at H
  have c4b0 : decide (a1 ≤ a0) = true := decide_eq_true c4
  clear c4
  obtain rfl := Option.some.inj H
  go_enter Tryd.func47, Tryd.ntmps47
  go_wp2
  go_ret
  exact ⟨by first | rfl | (simp; done) | (simp [*]; done), by repeat (first | exact Drawn0.refl _ | apply Drawn0.step)⟩
 ·rw [if_neg c4] at H
  have c4b0 : decide (a1 ≤ a0) = false := decide_eq_false c4
  clear c4
  obtain rfl := Option.some.inj H
  go_enter Tryd.func47, Tryd.ntmps47
  go_wp2
  go_ret
  exact ⟨by first | rfl | (simp; done) | (simp [*]; done), by repeat (first | exact Drawn0.refl _ | apply Drawn0.step)⟩

end Go.Proofs.YtekmiepdodaidaaDoor.X
end

section
/- slices.ContainsFunc and slices.IndexFunc at the closures of newTrial: is any number out of its bounds? -/
set_option linter.unusedVariables false
set_option linter.unusedSimpArgs false
namespace Go.Proofs.YtekmiepdodaidaaDoor.X
open Go.RowKit Go.Proofs.YtekmiepdodaidaaDoorW.PrintWords Go.Proofs.YtekmiepdodaidaaDoorW.PrintLast Go.Proofs.YtekmiepdodaidaaDoorW.PrintMore

def inB (lo hi d : Int) : Bool := decide (lo ≤ d) && decide (d ≤ hi)
def tests_newTrial_1.f (l : List Int) : Option Bool := some (!l.all (inB 1 1000))
def tests_newTrial_2.f (l : List Int) : Option Bool := some (!l.all (inB 1 100))
def tests_newTrial_3.f (l : List Int) : Option Bool := some (!l.all (inB 0 1))

theorem within_n (n lo hi : Int) (w : World) : Calls Tryd.prog 47 #[.int .i64 n, .int .i64 lo, .int .i64 hi] w fun e w' => e = .returned (.bool (inB lo hi n)) ∧ w = w' := by
 unfold inB
 by_cases h1 : lo ≤ n
 ·have c1 : decide (lo ≤ n) = true := decide_eq_true h1
  have HG := Aside0.mk (show (decide (lo ≤ n) && decide (n ≤ hi)) = decide (n ≤ hi) by rw [c1]; rfl)
  clear h1
  go_enter Tryd.func47, Tryd.ntmps47
  go_wp2
  go_ret
  exact ⟨by rw [HG.out]; rfl, rfl⟩
 ·have c1 : decide (lo ≤ n) = false := decide_eq_false h1
  have HG := Aside0.mk (show (decide (lo ≤ n) && decide (n ≤ hi)) = false by rw [c1]; rfl)
  clear h1
  go_enter Tryd.func47, Tryd.ntmps47
  go_wp2
  go_ret
  exact ⟨by rw [HG.out]; rfl, rfl⟩

def BadAt (f : Int → Bool) (d : Int) (e : Ending) : Prop := e = .returned (.bool (!f d))
theorem bad62 (d : Int) (w : World) : Calls Tryd.prog 62 #[.int .i64 d] w fun e w' => BadAt (inB 1 1000) d e ∧ w = w' := by
 go_enter Tryd.func62, Tryd.ntmps62
 go_wp2_with (go_at_call 47; refine (within_n _ _ _ _).mono ?_; rintro e w' ⟨rfl, rfl⟩)
 go_ret
 exact ⟨rfl, rfl⟩
theorem bad63 (d : Int) (w : World) : Calls Tryd.prog 63 #[.int .i64 d] w fun e w' => BadAt (inB 1 100) d e ∧ w = w' := by
 go_enter Tryd.func63, Tryd.ntmps63
 go_wp2_with (go_at_call 47; refine (within_n _ _ _ _).mono ?_; rintro e w' ⟨rfl, rfl⟩)
 go_ret
 exact ⟨rfl, rfl⟩
theorem bad64 (d : Int) (w : World) : Calls Tryd.prog 64 #[.int .i64 d] w fun e w' => BadAt (inB 0 1) d e ∧ w = w' := by
 go_enter Tryd.func64, Tryd.ntmps64
 go_wp2_with (go_at_call 47; refine (within_n _ _ _ _).mono ?_; rintro e w' ⟨rfl, rfl⟩)
 go_ret
 exact ⟨rfl, rfl⟩

/-- Where the first bad number stands. -/
def SomeIdx (f : Int → Bool) (l : List Int) (w : World) (e : Ending) (w' : World) : Prop := ∃ v : Int, e = .returned (.int .i64 v) ∧ w = w' ∧ (0 ≤ v ↔ l.all f = false)
set_option maxHeartbeats 2000000 in
set_option maxRecDepth 100000 in
theorem idx62 (f : Int → Bool) (hcl : ∀ d w, Calls Tryd.prog 62 #[.int .i64 d] w fun e w' => BadAt f d e ∧ w = w') (A : Option Addr) (c : Nat) (l : List Int) (w : World) (hr : Kd.C (Kd.int .i64) w A l.length l) :
  Calls Tryd.prog 73 #[.slice A l.length c, .func (.func 62) #[] #[]] w (SomeIdx f l w) := by
 have HR := Aside0.mk hr
 have HCL := Aside0.mk hcl
 have hm := Kd.C_max hr
 clear hr hcl
 go_enter Tryd.func73, Tryd.ntmps73
 go_wp2
 go_loopg [8] l.length (fun kq v8 w' => ∃ k : Nat, v8 = .int .i64 k ∧ w = w' ∧ Aside0 (kq + k = l.length) ∧ Aside0 (∀ j, j < k → f (rd l j) = true))
 case atStart => exact ⟨0, rfl, rfl, ⟨by omega⟩, ⟨by intro j hj; omega⟩⟩
 case round =>
  obtain ⟨k, rfl, rfl, HK, HOK⟩ := hrel
  by_cases hk : k < l.length
  ·obtain ⟨ad, e1, hx⟩ := Kd.at_int HR.out (k : Int) (by omega) (by omega)
   cases e1
   simp only [Int.toNat_natCast] at hx
   obtain ⟨x, hx'⟩ : ∃ x, rd l (k : Int) = x := ⟨_, rfl⟩
   rw [hx'] at hx
   have HX := Aside0.mk hx'
   clear hx'
   obtain ⟨b, hb⟩ : ∃ b, f x = b := ⟨_, rfl⟩
   have HBX := Aside0.mk hb
   clear hb
   cases b with
   | true =>
    go_wp2_with (go_at_call 62; refine (HCL.out x _).mono ?_; rintro e w' ⟨he, rfl⟩; unfold BadAt at he; rw [HBX.out] at he; subst he)
    go_roundg (gk - 1)
    case measure => have := HK.out; omega
    case rel => exact ⟨k + 1, by go_num, rfl, ⟨by have := HK.out; omega⟩, ⟨by intro j hj; by_cases e : j = k; (subst e; rw [HX.out]; exact HBX.out); exact HOK.out j (by omega)⟩⟩
   | false =>
    have HBAD := Aside0.mk (show l.all f = false by
     rw [List.all_eq_false]
     refine ⟨x, ?_, by rw [HBX.out]; decide⟩
     rw [← HX.out]; simp only [rd, Int.toNat_natCast, List.getD_eq_getElem?_getD, List.getElem?_eq_getElem hk, Option.getD_some]; exact List.getElem_mem hk)
    go_wp2_with (go_at_call 62; refine (HCL.out x _).mono ?_; rintro e w' ⟨he, rfl⟩; unfold BadAt at he; rw [HBX.out] at he; subst he)
    go_ret
    exact ⟨k, rfl, rfl, by simp [HBAD.out]⟩
  ·have hk' : k = l.length := by have := HK.out; omega
   have HALL := Aside0.mk (show l.all f = true by
    rw [List.all_eq_true]
    intro x hx
    obtain ⟨i, hi, rfl⟩ := List.getElem_of_mem hx
    have := HOK.out i (by omega)
    simpa [rd, List.getD_eq_getElem?_getD, List.getElem?_eq_getElem hi] using this)
   obtain rfl := hk'
   go_wp2
   go_ret
   exact ⟨-1, rfl, rfl, by simp [HALL.out]⟩

theorem contains62 (f : Int → Bool) (hcl : ∀ d w, Calls Tryd.prog 62 #[.int .i64 d] w fun e w' => BadAt f d e ∧ w = w') (A : Option Addr) (c : Nat) (l : List Int) (w : World) (hr : Kd.C (Kd.int .i64) w A l.length l) :
  Calls Tryd.prog 61 #[.slice A l.length c, .func (.func 62) #[] #[]] w fun e w' => e = .returned (.bool (!l.all f)) ∧ w = w' := by
 have HR := Aside0.mk hr
 have HCL := Aside0.mk hcl
 clear hr hcl
 obtain ⟨b, hb⟩ : ∃ b, l.all f = b := ⟨_, rfl⟩
 rw [hb]
 have HBB := Aside0.mk hb
 clear hb
 go_enter Tryd.func61, Tryd.ntmps61
 go_wp2_with fail
 refine (idx62 f HCL.out A c l _ HR.out).mono ?_
 rintro e w' ⟨v, rfl, rfl, hv⟩
 rw [HBB.out] at hv
 cases b with
 | true =>
  have h0 : decide (0 ≤ v) = false := decide_eq_false (fun h => by simpa using hv.1 h)
  clear hv
  go_wp2
  go_ret
  exact ⟨rfl, rfl⟩
 | false =>
  have h0 : decide (0 ≤ v) = true := decide_eq_true (hv.2 rfl)
  clear hv
  go_wp2
  go_ret
  exact ⟨rfl, rfl⟩

set_option maxHeartbeats 2000000 in
set_option maxRecDepth 100000 in
theorem idx63 (f : Int → Bool) (hcl : ∀ d w, Calls Tryd.prog 63 #[.int .i64 d] w fun e w' => BadAt f d e ∧ w = w') (A : Option Addr) (c : Nat) (l : List Int) (w : World) (hr : Kd.C (Kd.int .i64) w A l.length l) :
  Calls Tryd.prog 73 #[.slice A l.length c, .func (.func 63) #[] #[]] w (SomeIdx f l w) := by
 have HR := Aside0.mk hr
 have HCL := Aside0.mk hcl
 have hm := Kd.C_max hr
 clear hr hcl
 go_enter Tryd.func73, Tryd.ntmps73
 go_wp2
 go_loopg [8] l.length (fun kq v8 w' => ∃ k : Nat, v8 = .int .i64 k ∧ w = w' ∧ Aside0 (kq + k = l.length) ∧ Aside0 (∀ j, j < k → f (rd l j) = true))
 case atStart => exact ⟨0, rfl, rfl, ⟨by omega⟩, ⟨by intro j hj; omega⟩⟩
 case round =>
  obtain ⟨k, rfl, rfl, HK, HOK⟩ := hrel
  by_cases hk : k < l.length
  ·obtain ⟨ad, e1, hx⟩ := Kd.at_int HR.out (k : Int) (by omega) (by omega)
   cases e1
   simp only [Int.toNat_natCast] at hx
   obtain ⟨x, hx'⟩ : ∃ x, rd l (k : Int) = x := ⟨_, rfl⟩
   rw [hx'] at hx
   have HX := Aside0.mk hx'
   clear hx'
   obtain ⟨b, hb⟩ : ∃ b, f x = b := ⟨_, rfl⟩
   have HBX := Aside0.mk hb
   clear hb
   cases b with
   | true =>
    go_wp2_with (go_at_call 63; refine (HCL.out x _).mono ?_; rintro e w' ⟨he, rfl⟩; unfold BadAt at he; rw [HBX.out] at he; subst he)
    go_roundg (gk - 1)
    case measure => have := HK.out; omega
    case rel => exact ⟨k + 1, by go_num, rfl, ⟨by have := HK.out; omega⟩, ⟨by intro j hj; by_cases e : j = k; (subst e; rw [HX.out]; exact HBX.out); exact HOK.out j (by omega)⟩⟩
   | false =>
    have HBAD := Aside0.mk (show l.all f = false by
     rw [List.all_eq_false]
     refine ⟨x, ?_, by rw [HBX.out]; decide⟩
     rw [← HX.out]; simp only [rd, Int.toNat_natCast, List.getD_eq_getElem?_getD, List.getElem?_eq_getElem hk, Option.getD_some]; exact List.getElem_mem hk)
    go_wp2_with (go_at_call 63; refine (HCL.out x _).mono ?_; rintro e w' ⟨he, rfl⟩; unfold BadAt at he; rw [HBX.out] at he; subst he)
    go_ret
    exact ⟨k, rfl, rfl, by simp [HBAD.out]⟩
  ·have hk' : k = l.length := by have := HK.out; omega
   have HALL := Aside0.mk (show l.all f = true by
    rw [List.all_eq_true]
    intro x hx
    obtain ⟨i, hi, rfl⟩ := List.getElem_of_mem hx
    have := HOK.out i (by omega)
    simpa [rd, List.getD_eq_getElem?_getD, List.getElem?_eq_getElem hi] using this)
   obtain rfl := hk'
   go_wp2
   go_ret
   exact ⟨-1, rfl, rfl, by simp [HALL.out]⟩

theorem contains63 (f : Int → Bool) (hcl : ∀ d w, Calls Tryd.prog 63 #[.int .i64 d] w fun e w' => BadAt f d e ∧ w = w') (A : Option Addr) (c : Nat) (l : List Int) (w : World) (hr : Kd.C (Kd.int .i64) w A l.length l) :
  Calls Tryd.prog 61 #[.slice A l.length c, .func (.func 63) #[] #[]] w fun e w' => e = .returned (.bool (!l.all f)) ∧ w = w' := by
 have HR := Aside0.mk hr
 have HCL := Aside0.mk hcl
 clear hr hcl
 obtain ⟨b, hb⟩ : ∃ b, l.all f = b := ⟨_, rfl⟩
 rw [hb]
 have HBB := Aside0.mk hb
 clear hb
 go_enter Tryd.func61, Tryd.ntmps61
 go_wp2_with fail
 refine (idx63 f HCL.out A c l _ HR.out).mono ?_
 rintro e w' ⟨v, rfl, rfl, hv⟩
 rw [HBB.out] at hv
 cases b with
 | true =>
  have h0 : decide (0 ≤ v) = false := decide_eq_false (fun h => by simpa using hv.1 h)
  clear hv
  go_wp2
  go_ret
  exact ⟨rfl, rfl⟩
 | false =>
  have h0 : decide (0 ≤ v) = true := decide_eq_true (hv.2 rfl)
  clear hv
  go_wp2
  go_ret
  exact ⟨rfl, rfl⟩

set_option maxHeartbeats 2000000 in
set_option maxRecDepth 100000 in
theorem idx64 (f : Int → Bool) (hcl : ∀ d w, Calls Tryd.prog 64 #[.int .i64 d] w fun e w' => BadAt f d e ∧ w = w') (A : Option Addr) (c : Nat) (l : List Int) (w : World) (hr : Kd.C (Kd.int .i64) w A l.length l) :
  Calls Tryd.prog 73 #[.slice A l.length c, .func (.func 64) #[] #[]] w (SomeIdx f l w) := by
 have HR := Aside0.mk hr
 have HCL := Aside0.mk hcl
 have hm := Kd.C_max hr
 clear hr hcl
 go_enter Tryd.func73, Tryd.ntmps73
 go_wp2
 go_loopg [8] l.length (fun kq v8 w' => ∃ k : Nat, v8 = .int .i64 k ∧ w = w' ∧ Aside0 (kq + k = l.length) ∧ Aside0 (∀ j, j < k → f (rd l j) = true))
 case atStart => exact ⟨0, rfl, rfl, ⟨by omega⟩, ⟨by intro j hj; omega⟩⟩
 case round =>
  obtain ⟨k, rfl, rfl, HK, HOK⟩ := hrel
  by_cases hk : k < l.length
  ·obtain ⟨ad, e1, hx⟩ := Kd.at_int HR.out (k : Int) (by omega) (by omega)
   cases e1
   simp only [Int.toNat_natCast] at hx
   obtain ⟨x, hx'⟩ : ∃ x, rd l (k : Int) = x := ⟨_, rfl⟩
   rw [hx'] at hx
   have HX := Aside0.mk hx'
   clear hx'
   obtain ⟨b, hb⟩ : ∃ b, f x = b := ⟨_, rfl⟩
   have HBX := Aside0.mk hb
   clear hb
   cases b with
   | true =>
    go_wp2_with (go_at_call 64; refine (HCL.out x _).mono ?_; rintro e w' ⟨he, rfl⟩; unfold BadAt at he; rw [HBX.out] at he; subst he)
    go_roundg (gk - 1)
    case measure => have := HK.out; omega
    case rel => exact ⟨k + 1, by go_num, rfl, ⟨by have := HK.out; omega⟩, ⟨by intro j hj; by_cases e : j = k; (subst e; rw [HX.out]; exact HBX.out); exact HOK.out j (by omega)⟩⟩
   | false =>
    have HBAD := Aside0.mk (show l.all f = false by
     rw [List.all_eq_false]
     refine ⟨x, ?_, by rw [HBX.out]; decide⟩
     rw [← HX.out]; simp only [rd, Int.toNat_natCast, List.getD_eq_getElem?_getD, List.getElem?_eq_getElem hk, Option.getD_some]; exact List.getElem_mem hk)
    go_wp2_with (go_at_call 64; refine (HCL.out x _).mono ?_; rintro e w' ⟨he, rfl⟩; unfold BadAt at he; rw [HBX.out] at he; subst he)
    go_ret
    exact ⟨k, rfl, rfl, by simp [HBAD.out]⟩
  ·have hk' : k = l.length := by have := HK.out; omega
   have HALL := Aside0.mk (show l.all f = true by
    rw [List.all_eq_true]
    intro x hx
    obtain ⟨i, hi, rfl⟩ := List.getElem_of_mem hx
    have := HOK.out i (by omega)
    simpa [rd, List.getD_eq_getElem?_getD, List.getElem?_eq_getElem hi] using this)
   obtain rfl := hk'
   go_wp2
   go_ret
   exact ⟨-1, rfl, rfl, by simp [HALL.out]⟩

theorem contains64 (f : Int → Bool) (hcl : ∀ d w, Calls Tryd.prog 64 #[.int .i64 d] w fun e w' => BadAt f d e ∧ w = w') (A : Option Addr) (c : Nat) (l : List Int) (w : World) (hr : Kd.C (Kd.int .i64) w A l.length l) :
  Calls Tryd.prog 61 #[.slice A l.length c, .func (.func 64) #[] #[]] w fun e w' => e = .returned (.bool (!l.all f)) ∧ w = w' := by
 have HR := Aside0.mk hr
 have HCL := Aside0.mk hcl
 clear hr hcl
 obtain ⟨b, hb⟩ : ∃ b, l.all f = b := ⟨_, rfl⟩
 rw [hb]
 have HBB := Aside0.mk hb
 clear hb
 go_enter Tryd.func61, Tryd.ntmps61
 go_wp2_with fail
 refine (idx64 f HCL.out A c l _ HR.out).mono ?_
 rintro e w' ⟨v, rfl, rfl, hv⟩
 rw [HBB.out] at hv
 cases b with
 | true =>
  have h0 : decide (0 ≤ v) = false := decide_eq_false (fun h => by simpa using hv.1 h)
  clear hv
  go_wp2
  go_ret
  exact ⟨rfl, rfl⟩
 | false =>
  have h0 : decide (0 ≤ v) = true := decide_eq_true (hv.2 rfl)
  clear hv
  go_wp2
  go_ret
  exact ⟨rfl, rfl⟩

theorem tests_newTrial_1.calls (A : Option Addr) (c : Nat) (l : List Int) (r : Bool) (w : World) (hr : Kd.C (Kd.int .i64) w A l.length l) (hc : l.length ≤ c) (h : tests_newTrial_1.f l = some r) :
  Calls Tryd.prog 61 #[.slice A l.length c, .func (.func 62) #[] #[]] w fun e w' => e = .returned (.bool r) ∧ Drawn0 w w' := by
 obtain rfl := Option.some.inj h
 exact (contains62 _ bad62 A c l w hr).mono (by rintro e w' ⟨rfl, rfl⟩; exact ⟨rfl, 0, rfl⟩)
theorem tests_newTrial_2.calls (A : Option Addr) (c : Nat) (l : List Int) (r : Bool) (w : World) (hr : Kd.C (Kd.int .i64) w A l.length l) (hc : l.length ≤ c) (h : tests_newTrial_2.f l = some r) :
  Calls Tryd.prog 61 #[.slice A l.length c, .func (.func 63) #[] #[]] w fun e w' => e = .returned (.bool r) ∧ Drawn0 w w' := by
 obtain rfl := Option.some.inj h
 exact (contains63 _ bad63 A c l w hr).mono (by rintro e w' ⟨rfl, rfl⟩; exact ⟨rfl, 0, rfl⟩)
theorem tests_newTrial_3.calls (A : Option Addr) (c : Nat) (l : List Int) (r : Bool) (w : World) (hr : Kd.C (Kd.int .i64) w A l.length l) (hc : l.length ≤ c) (h : tests_newTrial_3.f l = some r) :
  Calls Tryd.prog 61 #[.slice A l.length c, .func (.func 64) #[] #[]] w fun e w' => e = .returned (.bool r) ∧ Drawn0 w w' := by
 obtain rfl := Option.some.inj h
 exact (contains64 _ bad64 A c l w hr).mono (by rintro e w' ⟨rfl, rfl⟩; exact ⟨rfl, 0, rfl⟩)
end Go.Proofs.YtekmiepdodaidaaDoor.X
end
