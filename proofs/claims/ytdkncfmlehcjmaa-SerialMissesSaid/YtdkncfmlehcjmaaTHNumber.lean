/- serial.isNumber, by hand: are digits at most so many, and each from 0 to n - 1; with slices.ContainsFunc and slices.IndexFunc at its closure. -/
import Derived.Test.YtdkncfmlehcjmaaTX0
set_option linter.unusedVariables false
set_option linter.unusedSimpArgs false
namespace Go.Proofs.Ytdkncfmlehcjmaa.X
open Go.RowKit Go.Proofs.YtdkncfmlehcjmaaW.PrintWords Go.Proofs.YtdkncfmlehcjmaaW.PrintLast Go.Proofs.YtdkncfmlehcjmaaW.PrintMore

def digOk (n d : Int) : Bool := decide (0 ≤ d) && decide (d ≤ wrap64 (n - 1))
def isNum (l : List Int) (n most : Int) : Bool := decide ((l.length : Int) ≤ most) && l.all (digOk n)
def serial_isNumber.f (l0 : List Int) (a1 a2 : Int) : Option Bool := some (isNum l0 a1 a2)

theorem within_n (n lo hi : Int) (w : World) : Calls Try.prog 56 #[.int .i64 n, .int .i64 lo, .int .i64 hi] w fun e w' => e = .returned (.bool (decide (lo ≤ n) && decide (n ≤ hi))) ∧ w = w' := by
  by_cases h1 : lo ≤ n
  · have c1 : decide (lo ≤ n) = true := decide_eq_true h1
    have HG := Aside0.mk (show (decide (lo ≤ n) && decide (n ≤ hi)) = decide (n ≤ hi) by rw [c1]; rfl)
    clear h1
    go_enter Try.func56, Try.ntmps56
    go_wp2
    go_ret
    exact ⟨by rw [HG.out]; rfl, rfl⟩
  · have c1 : decide (lo ≤ n) = false := decide_eq_false h1
    have HG := Aside0.mk (show (decide (lo ≤ n) && decide (n ≤ hi)) = false by rw [c1]; rfl)
    clear h1
    go_enter Try.func56, Try.ntmps56
    go_wp2
    go_ret
    exact ⟨by rw [HG.out]; rfl, rfl⟩

theorem bad_any (n d : Int) (B : Nat) (w : World) (hc : w.cell? ⟨B, 0, none⟩ = some (.int .i64 n)) : Calls Try.prog 73 #[.int .i64 d, .pointer (some ⟨B, 0, none⟩)] w fun e w' => e = .returned (.bool (!digOk n d)) ∧ w = w' := by
  go_enter Try.func73, Try.ntmps73
  go_wp2_with (go_at_call 56; refine (within_n _ _ _ _).mono ?_; rintro e w' ⟨rfl, rfl⟩)
  go_ret
  exact ⟨congrArg (fun b => Ending.returned (.bool b)) (by unfold digOk; rw [Bool.not_and]), rfl⟩

/-- Where the first bad digit stands. -/
def SomeIdx (l : List Int) (n : Int) (w : World) (e : Ending) (w' : World) : Prop := ∃ v : Int, e = .returned (.int .i64 v) ∧ w = w' ∧ (0 ≤ v ↔ l.all (digOk n) = false)
set_option maxHeartbeats 2000000 in
set_option maxRecDepth 100000 in
theorem idx_any (A : Option Addr) (c : Nat) (l : List Int) (n : Int) (B : Nat) (w : World) (hr : Kd.C (Kd.int .i64) w A l.length l) (hc : w.cell? ⟨B, 0, none⟩ = some (.int .i64 n)) :
    Calls Try.prog 84 #[.slice A l.length c, .func (.func 73) #[] #[.pointer (some ⟨B, 0, none⟩)]] w (SomeIdx l n w) := by
  have HR := Aside0.mk hr
  have HC := Aside0.mk hc
  have hm := Kd.C_max hr
  clear hr hc
  go_enter Try.func84, Try.ntmps84
  go_wp2
  go_loopg [8] l.length (fun kq v8 w' => ∃ k : Nat, v8 = .int .i64 k ∧ w = w' ∧ Aside0 (kq + k = l.length) ∧ Aside0 (∀ j, j < k → digOk n (rd l j) = true))
  case atStart => exact ⟨0, rfl, rfl, ⟨by omega⟩, ⟨by intro j hj; omega⟩⟩
  case round =>
    obtain ⟨k, rfl, rfl, HK, HOK⟩ := hrel
    by_cases hk : k < l.length
    · obtain ⟨ad, e1, hx⟩ := Kd.at_int HR.out (k : Int) (by omega) (by omega)
      cases e1
      simp only [Int.toNat_natCast] at hx
      obtain ⟨x, hx'⟩ : ∃ x, rd l (k : Int) = x := ⟨_, rfl⟩
      rw [hx'] at hx
      have HX := Aside0.mk hx'
      clear hx'
      by_cases hb : digOk n x = true
      · go_wp2_with (go_at_call 73; refine (bad_any n _ B _ HC.out).mono ?_; rintro e w' ⟨rfl, rfl⟩)
        go_roundg (gk - 1)
        case measure => have := HK.out; omega
        case rel => exact ⟨k + 1, by go_num, rfl, ⟨by have := HK.out; omega⟩, ⟨by intro j hj; by_cases e : j = k; (subst e; rw [HX.out]; exact hb); exact HOK.out j (by omega)⟩⟩
      · have hb' : digOk n x = false := by simpa using hb
        have HBAD := Aside0.mk (show l.all (digOk n) = false by
          rw [List.all_eq_false]
          refine ⟨x, ?_, hb⟩
          rw [← HX.out]; simp only [rd, Int.toNat_natCast, List.getD_eq_getElem?_getD, List.getElem?_eq_getElem hk, Option.getD_some]; exact List.getElem_mem hk)
        clear hb
        go_wp2_with (go_at_call 73; refine (bad_any n _ B _ HC.out).mono ?_; rintro e w' ⟨rfl, rfl⟩)
        go_ret
        exact ⟨k, rfl, rfl, by simp [HBAD.out]⟩
    · have hk' : k = l.length := by have := HK.out; omega
      have HALL := Aside0.mk (show l.all (digOk n) = true by
        rw [List.all_eq_true]
        intro x hx
        obtain ⟨i, hi, rfl⟩ := List.getElem_of_mem hx
        have := HOK.out i (by omega)
        simpa [rd, List.getD_eq_getElem?_getD, List.getElem?_eq_getElem hi] using this)
      obtain rfl := hk'
      go_wp2
      go_ret
      exact ⟨-1, rfl, rfl, by simp [HALL.out]⟩

theorem contains_any (A : Option Addr) (c : Nat) (l : List Int) (n : Int) (B : Nat) (w : World) (hr : Kd.C (Kd.int .i64) w A l.length l) (hc : w.cell? ⟨B, 0, none⟩ = some (.int .i64 n)) :
    Calls Try.prog 72 #[.slice A l.length c, .func (.func 73) #[] #[.pointer (some ⟨B, 0, none⟩)]] w fun e w' => e = .returned (.bool (!l.all (digOk n))) ∧ w = w' := by
  have HR := Aside0.mk hr
  have HC := Aside0.mk hc
  clear hr hc
  obtain ⟨b, hb⟩ : ∃ b, l.all (digOk n) = b := ⟨_, rfl⟩
  rw [hb]
  have HBB := Aside0.mk hb
  clear hb
  go_enter Try.func72, Try.ntmps72
  go_wp2_with fail
  refine (idx_any A c l n B _ HR.out HC.out).mono ?_
  rintro e w' ⟨v, rfl, rfl, hv⟩
  rw [HBB.out] at hv
  cases b with
  | true =>
    have h0 : decide (0 ≤ v) = false := decide_eq_false (fun h => by simpa using hv.1 h)
    clear hv
    go_wp2
    go_ret
    exact ⟨rfl, rfl⟩
  | false =>
    have h0 : decide (0 ≤ v) = true := decide_eq_true (hv.2 rfl)
    clear hv
    go_wp2
    go_ret
    exact ⟨rfl, rfl⟩

set_option maxHeartbeats 1000000 in
set_option maxRecDepth 100000 in
theorem serial_isNumber.calls (A0 : Option Addr) (c0 : Nat) (l0 : List Int) (a1 a2 : Int) (r : Bool) (w : World) (hr0 : Kd.C (Kd.int .i64) w A0 l0.length l0) (hc0 : l0.length ≤ c0) (h : serial_isNumber.f l0 a1 a2 = some r) :
    Calls Try.prog 54 #[.slice A0 l0.length c0, .int .i64 a1, .int .i64 a2] w fun e w' => e = .returned (.bool r) ∧ Below w.heap.size w w' := by
  obtain rfl := Option.some.inj h
  have HR := Aside0.mk (Kd.C_alloc hr0 (.cells #[.int .i64 a1] 3))
  have HBL : Aside0 (Below w.heap.size w (w.alloc (.cells #[.int .i64 a1] 3))) := ⟨(Below.refl _ _).alloc (Nat.le_refl _) _⟩
  clear hr0 hc0
  by_cases hm : (l0.length : Int) ≤ a2
  · have c1 : decide ((l0.length : Int) ≤ a2) = true := decide_eq_true hm
    have HE := Aside0.mk (show isNum l0 a1 a2 = l0.all (digOk a1) by unfold isNum; rw [c1]; rfl)
    rw [HE.out]
    clear hm h
    go_enter Try.func54, Try.ntmps54
    go_wp2_with fail
    refine (contains_any A0 c0 l0 a1 w.heap.size _ HR.out (by simp)).mono ?_
    rintro e w' ⟨rfl, rfl⟩
    go_wp2
    go_ret
    exact ⟨congrArg (fun b => Ending.returned (.bool b)) (by simp), HBL.out⟩
  · have c1 : decide ((l0.length : Int) ≤ a2) = false := decide_eq_false hm
    have HE := Aside0.mk (show isNum l0 a1 a2 = false by unfold isNum; rw [c1]; rfl)
    clear hm h
    go_enter Try.func54, Try.ntmps54
    go_wp2
    go_ret
    exact ⟨by rw [HE.out]; rfl, HBL.out⟩
end Go.Proofs.Ytdkncfmlehcjmaa.X
