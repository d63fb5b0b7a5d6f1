/- Steps that repeat: dust that settles, air that warms; the program's loops and the reference's, which may stop early; and the walks of their laws. Conditions: the bounds that each theorem names. -/
import Derived.Test.YtlgagnbnjfneaaaBase
import Derived.Handy
import Derived.Lib.Hide
namespace Go.Proofs.Ytlgagnbnjfneaaa
open Go.RowKit
open Pl

/-! ### Dust that settles -/
def settleF (d s : Int) : Nat → Int
  | 0 => d
  | n + 1 => settleF d s n - divR (settleF d s n * s) 1000000
theorem settle_step {x s : Int} (h1 : 0 ≤ x) (h2 : x ≤ 1000000) (h3 : 0 ≤ s) (h4 : s ≤ 1000000) : 0 ≤ divR (x * s) 1000000 ∧ divR (x * s) 1000000 ≤ x ∧ 0 ≤ x * s ∧ x * s ≤ 1000000000000 := by
  have m1 := mul_ge h1 h3
  have m2 : x * s ≤ x * 1000000 := Int.mul_le_mul_of_nonneg_left h4 h1
  exact ⟨divR_nonneg' (by omega) m1, divR_le (by omega) (by omega) h1, m1, by omega⟩
theorem settle_bd {d s : Int} (h1 : 0 ≤ d) (h2 : d ≤ 1000000) (h3 : 0 ≤ s) (h4 : s ≤ 1000000) : ∀ n, 0 ≤ settleF d s n ∧ settleF d s n ≤ 1000000
  | 0 => ⟨h1, h2⟩
  | n + 1 => by
    obtain ⟨a, b⟩ := settle_bd h1 h2 h3 h4 n
    obtain ⟨c, e, _⟩ := settle_step a b h3 h4
    show 0 ≤ settleF d s n - divR (settleF d s n * s) 1000000 ∧ settleF d s n - divR (settleF d s n * s) 1000000 ≤ 1000000
    omega
/-- Where nothing settles any more, nothing will. -/
theorem settle_still {d s : Int} {k : Nat} (h : divR (settleF d s k * s) 1000000 = 0) : ∀ m, settleF d s (k + m) = settleF d s k
  | 0 => rfl
  | m + 1 => by
    have ih := settle_still h m
    show settleF d s (k + m) - divR (settleF d s (k + m) * s) 1000000 = settleF d s k
    rw [ih, h, Int.sub_zero]
theorem settle_zero {d s : Int} {k : Nat} (h : settleF d s k = 0) : divR (settleF d s k * s) 1000000 = 0 := by
  rw [h, Int.zero_mul]; rfl

/-! ### Air that warms -/
def clipF (n : Int) : Int := if n < -100 then -100 else if n > 600 then 600 else n
theorem clip_bd (n : Int) : -100 ≤ clipF n ∧ clipF n ≤ 600 := by unfold clipF; repeat' split <;> omega
theorem asWarmth_any (n : Int) (w : World) : Calls Try.prog 153 #[.int .i64 n] w fun e w' => e = .returned (.int .i64 (clipF n)) ∧ w = w' := by
  by_cases h1 : n < -100
  · rw [show clipF n = -100 from by unfold clipF; rw [if_pos h1]]
    go_enter Try.func153, Try.ntmps153
    go_wp2
    go_ret
    exact ⟨rfl, rfl⟩
  · by_cases h2 : n > 600
    · rw [show clipF n = 600 from by unfold clipF; rw [if_neg h1, if_pos h2]]
      go_enter Try.func153, Try.ntmps153
      go_wp2
      go_ret
      exact ⟨rfl, rfl⟩
    · rw [show clipF n = n from by unfold clipF; rw [if_neg h1, if_neg h2]]
      go_enter Try.func153, Try.ntmps153
      go_wp2
      go_ret
      exact ⟨ret_int (by omega), rfl⟩
theorem l16Clip_any (n : Int) (w : World) : Calls Try.prog 116 #[.int .i64 n] w fun e w' => e = .returned (.int .i64 (clipF n)) ∧ w = w' := by
  rw [show clipF n = mx (-100) (mn 600 n) from by unfold clipF mx mn; repeat' split <;> omega]
  go_enter Try.func116, Try.ntmps116
  go_wp2_with (first | (go_at_call 141; refine (l00Max_any _ _ _).mono ?_; rintro e w' ⟨rfl, rfl⟩) | (go_at_call 114; refine (l00Min_any _ _ _).mono ?_; rintro e w' ⟨rfl, rfl⟩))
  go_ret
  exact ⟨rfl, rfl⟩
def warmF (rock rate t : Int) : Nat → Int
  | 0 => t
  | n + 1 => clipF (warmF rock rate t n + divR ((rock - warmF rock rate t n) * rate) 1000)
theorem warm_bd {rock rate t : Int} (h1 : -100 ≤ t) (h2 : t ≤ 600) : ∀ n, -100 ≤ warmF rock rate t n ∧ warmF rock rate t n ≤ 600
  | 0 => ⟨h1, h2⟩
  | _ + 1 => clip_bd _
theorem warm_still {rock rate t : Int} {k : Nat} (h : warmF rock rate t (k + 1) = warmF rock rate t k) : ∀ m, warmF rock rate t (k + m) = warmF rock rate t k
  | 0 => rfl
  | m + 1 => by
    have ih := warm_still h m
    show clipF (warmF rock rate t (k + m) + divR ((rock - warmF rock rate t (k + m)) * rate) 1000) = warmF rock rate t k
    rw [ih]; exact h
theorem warm_step {rock rate x : Int} (r1 : 0 ≤ rock) (r2 : rock ≤ 900) (q1 : 0 ≤ rate) (q2 : rate ≤ 1000) (h1 : -100 ≤ x) (h2 : x ≤ 600) :
    -1000000 ≤ (rock - x) * rate ∧ (rock - x) * rate ≤ 1000000 ∧ -1000 ≤ divR ((rock - x) * rate) 1000 ∧ divR ((rock - x) * rate) 1000 ≤ 1000 := by
  obtain ⟨m1, m2⟩ := mul_abs (a := rock - x) (b := rate) (A := 1000) (B := 1000) (by omega) (by omega) (by omega) (by omega)
  exact ⟨by omega, by omega, le_divR (by omega) (by omega) (by omega), divR_le (by omega) (by omega) (by omega)⟩
theorem warmAlong_any (t rock rate : Int) (T : Nat) (w : World) (h1 : -100 ≤ t) (h2 : t ≤ 600) (r1 : 0 ≤ rock) (r2 : rock ≤ 900) (q1 : 0 ≤ rate) (q2 : rate ≤ 1000) (hT : T ≤ 1000000) :
    Calls Try.prog 151 #[.int .i64 t, .int .i64 rock, .int .i64 rate, .int .i64 T] w fun e w' => e = .returned (.int .i64 (warmF rock rate t (T / 10))) ∧ ∃ n, w.drewN n = w' := by
  go_enter Try.func151, Try.ntmps151
  go_wp2
  go_loopw [0, 11] (fun x i wr => ∃ k : Nat, k ≤ T / 10 ∧ i = .int .i64 k ∧ x = .int .i64 (warmF rock rate t k) ∧ ∃ n, w.drewN n = wr) (fun _ i _ => T / 10 - (intOf i).toNat)
  case atStart => exact ⟨0, Nat.zero_le _, rfl, rfl, 0, rfl⟩
  case round =>
    obtain ⟨k, hk, rfl, rfl, n, rfl⟩ := hrel
    have hs := warm_bd (rock := rock) (rate := rate) h1 h2 k
    obtain ⟨a, b⟩ := hs
    obtain ⟨c1, c2, c3, c4⟩ := warm_step r1 r2 q1 q2 a b
    by_cases hlt : k < T / 10
    · go_wp2_with (first | (go_at_call 94; refine (divRound_any _ _ _ (by omega) (by omega) (by omega) (by omega)).mono ?_; rintro e w' ⟨rfl, _, rfl⟩) | (go_at_call 153; refine (asWarmth_any _ _).mono ?_; rintro e w' ⟨rfl, rfl⟩))
      go_roundw
      case rel => exact ⟨k + 1, by omega, by go_num, rfl, _, rfl⟩
      case measure => simp [intOf]; omega
    · obtain rfl : k = T / 10 := by omega
      go_wp2
      go_ret
      exact ⟨rfl, _, rfl⟩
theorem l16Warm_any (t rock rate : Int) (T : Nat) (w : World) (h1 : -100 ≤ t) (h2 : t ≤ 600) (r1 : 0 ≤ rock) (r2 : rock ≤ 900) (q1 : 0 ≤ rate) (q2 : rate ≤ 1000) (hT : T ≤ 1000000) :
    Calls Try.prog 113 #[.int .i64 t, .int .i64 rock, .int .i64 rate, .int .i64 T] w fun e w' => e = .returned (.int .i64 (warmF rock rate t (T / 10))) ∧ w = w' := by
  go_enter Try.func113, Try.ntmps113
  go_wp2
  go_loop [0, 9] (fun x i => ∃ k j : Nat, k + j = T / 10 ∧ i = .int .i64 j ∧ x = .int .i64 (warmF rock rate t k)) (fun _ i => (intOf i).toNat)
  case atStart => exact ⟨0, T / 10, by omega, by go_num, rfl⟩
  case round =>
    obtain ⟨k, j, hk, rfl, rfl⟩ := hrel
    have hs := warm_bd (rock := rock) (rate := rate) h1 h2 k
    obtain ⟨a, b⟩ := hs
    obtain ⟨c1, c2, c3, c4⟩ := warm_step r1 r2 q1 q2 a b
    have HK := Lib.hid hk
    have hjb : j ≤ T / 10 := by omega
    clear hk
    by_cases hlt : 0 < j
    · by_cases he : warmF rock rate t (k + 1) = warmF rock rate t k
      · have e : warmF rock rate t (T / 10) = warmF rock rate t k := by
          have := warm_still he j
          rwa [HK.out] at this
        have E := Lib.hid e
        have he' : (clipF (warmF rock rate t k + divR ((rock - warmF rock rate t k) * rate) 1000) == warmF rock rate t k) = true := by
          rw [beq_iff_eq]; exact he
        clear e he
        go_wp2_with (first | (go_at_call 88; refine (l01Div_any _ _ _ (by omega) (by omega) (by omega) (by omega)).mono ?_; rintro e w' ⟨rfl, rfl⟩) | (go_at_call 116; refine (l16Clip_any _ _).mono ?_; rintro e w' ⟨rfl, rfl⟩))
        go_ret
        exact ⟨ret_int E.out.symm, rfl⟩
      · have he' : (clipF (warmF rock rate t k + divR ((rock - warmF rock rate t k) * rate) 1000) == warmF rock rate t k) = false := by
          rw [beq_eq_false_iff_ne]; exact he
        clear he
        go_wp2_with (first | (go_at_call 88; refine (l01Div_any _ _ _ (by omega) (by omega) (by omega) (by omega)).mono ?_; rintro e w' ⟨rfl, rfl⟩) | (go_at_call 116; refine (l16Clip_any _ _).mono ?_; rintro e w' ⟨rfl, rfl⟩))
        go_round
        case rel => exact ⟨k + 1, j - 1, by have := HK.out; omega, by go_num, rfl⟩
        case measure => simp [intOf]; omega
    · obtain rfl : j = 0 := by omega
      go_wp2
      go_ret
      exact ⟨ret_int (by rw [← HK.out]; rfl), rfl⟩
end Go.Proofs.Ytlgagnbnjfneaaa
