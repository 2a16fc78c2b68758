/- tickinglaw11.list, by hand: the first 25 numbers of a list, in new memory. -/
import Derived.Test.YtdkncfmlehcjmaaTX0
set_option linter.unusedVariables false
set_option linter.unusedSimpArgs false
namespace Go.Proofs.Ytdkncfmlehcjmaa.X
open Go.RowKit Go.Proofs.YtdkncfmlehcjmaaW.PrintWords Go.Proofs.YtdkncfmlehcjmaaW.PrintLast Go.Proofs.YtdkncfmlehcjmaaW.PrintMore
attribute [local go_sem] max2_int min2_int max_two min_two max_three min_three max_four min_four
def tickinglaw11_list.f (l0 : List Int) : Option (List Int) := some (l0.take 25)
set_option maxHeartbeats 2000000 in
set_option maxRecDepth 100000 in
theorem list_any (A0 : Option Addr) (c0 : Nat) (l0 : List Int) (w : World) (hr0 : Kd.C (Kd.int .i64) w A0 l0.length l0) (hc0 : l0.length ≤ c0) (m : Nat) (hm : m ≤ l0.length) (hm2 : (if 25 < (l0.length : Int) then 25 else (l0.length : Int)) = (m : Int)) (hm3 : m ≤ 25) :
    Calls Try.prog 21 #[.slice A0 l0.length c0] w fun e w' => ∃ v0_ : Value, e = .returned (v0_) ∧ Kd.R (Kd.int .i64) 3 w' w.heap.size (fun _ => True) v0_ (l0.take m) ∧ Below w.heap.size w w' := by
  have HR0 := Aside0.mk hr0
  have HC0 := Aside0.mk hc0
  clear hr0 hc0
  have HB := Aside0.mk (Below.refl w.heap.size w)
  obtain ⟨i06, hi06, _, hsz6, _⟩ := info_parts info3
  have hcut := print_take_of (P := Try.prog) (Value.int .i64) 0 23 3 .i64 Try.underlying23 hi06 hsz6 A0 c0 l0 (m : Int) (by omega) (by omega) HC0.out
  have hl : (l0.take m).length = m := by rw [List.length_take]; omega
  rw [Int.toNat_natCast, hl] at hcut
  obtain ⟨hcut6, hA6, hC6⟩ := hcut
  have HR101 := Aside0.mk (Kd.C_of_reads (h1 := fun _ => rfl) (hA6 _ (Kd.reads_of_C HR0.out)))
  clear hA6 hC6 hi06 hsz6
  obtain ⟨ys, hys⟩ : ∃ ys, ys = l0.take m := ⟨_, rfl⟩
  rw [← hys] at hl HR101 ⊢
  have HL := Aside0.mk hl
  clear hys hl
  go_enter Try.func21, Try.ntmps21
  go_wp2_with (at_builtin; go_loud (refine Kd.R_append_rows (Kd.int .i64) (w0 := w) w.heap.size rfl (.tmp 4) (.tmp 9) 23 3 (.int .i64 0) 8 rfl Try.underlying23 info3 rfl (by decide) (by omega) (.slice none 0 0) ([] : List Int) ys _ _ _ (fun _ => True) (fun _ => False) rfl rfl ?aO ?aR (fun _ _ h => h) (fun _ h => h.elim) ?aF ?aB ?aS ?aL ?_); (case aO => exact Kd.R_nil _ _ _ _ (fun _ => True)); (case aR => exact HR101.out); (case aF => exact fun _ _ => trivial); (case aB => exact HB.out); (case aS => exact Nat.le_refl _); (case aL => have := HL.out; simp; omega); intro v103 w7 ho hb hg hat; have HO := Aside0.mk ho; have HB2 := Aside0.mk hb; clear ho hb hg hat)
  go_ret
  exact ⟨_, rfl, HO.out, HB2.out⟩
theorem tickinglaw11_list.calls (A0 : Option Addr) (c0 : Nat) (l0 : List Int) (r : List Int) (w : World) (hr0 : Kd.C (Kd.int .i64) w A0 l0.length l0) (hc0 : l0.length ≤ c0) (h : tickinglaw11_list.f l0 = some r) :
    Calls Try.prog 21 #[.slice A0 l0.length c0] w fun e w' => ∃ v0_ : Value, e = .returned (v0_) ∧ Kd.R (Kd.int .i64) 3 w' w.heap.size (fun _ => True) v0_ r ∧ Below w.heap.size w w' := by
  obtain rfl := Option.some.inj h
  by_cases hl : 25 < l0.length
  · exact list_any A0 c0 l0 w hr0 hc0 25 (by omega) (by rw [if_pos (by omega)]; rfl) (by omega)
  · have := list_any A0 c0 l0 w hr0 hc0 l0.length (by omega) (by rw [if_neg (by omega)]) (by omega)
    rw [List.take_of_length_le (Nat.le_refl _)] at this
    rw [List.take_of_length_le (by omega)]
    exact this
end Go.Proofs.Ytdkncfmlehcjmaa.X
