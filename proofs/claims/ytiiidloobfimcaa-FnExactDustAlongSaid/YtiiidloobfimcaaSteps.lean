/- Steps that repeat: dust that settles, air that warms; the program's loops and the reference's, which may stop early; and the walks of their laws. Conditions: the bounds that each theorem names. -/
import Derived.Test.YtiiidloobfimcaaBase
import Derived.Handy
import Derived.Lib.Hide
namespace Go.Proofs.Ytiiidloobfimcaa
open Go.RowKit
open Pl

/-! ### Dust that settles -/
def settleF (d s : Int) : Nat → Int
  | 0 => d
  | n + 1 => settleF d s n - divR (settleF d s n * s) 1000000
theorem settle_step {x s : Int} (h1 : 0 ≤ x) (h2 : x ≤ 1000000) (h3 : 0 ≤ s) (h4 : s ≤ 1000000) : 0 ≤ divR (x * s) 1000000 ∧ divR (x * s) 1000000 ≤ x ∧ 0 ≤ x * s ∧ x * s ≤ 1000000000000 := by
  have m1 := mul_ge h1 h3
  have m2 : x * s ≤ x * 1000000 := Int.mul_le_mul_of_nonneg_left h4 h1
  exact ⟨divR_nonneg' (by omega) m1, divR_le (by omega) (by omega) h1, m1, by omega⟩
theorem settle_bd {d s : Int} (h1 : 0 ≤ d) (h2 : d ≤ 1000000) (h3 : 0 ≤ s) (h4 : s ≤ 1000000) : ∀ n, 0 ≤ settleF d s n ∧ settleF d s n ≤ 1000000
  | 0 => ⟨h1, h2⟩
  | n + 1 => by
    obtain ⟨a, b⟩ := settle_bd h1 h2 h3 h4 n
    obtain ⟨c, e, _⟩ := settle_step a b h3 h4
    show 0 ≤ settleF d s n - divR (settleF d s n * s) 1000000 ∧ settleF d s n - divR (settleF d s n * s) 1000000 ≤ 1000000
    omega
/-- Where nothing settles any more, nothing will. -/
theorem settle_still {d s : Int} {k : Nat} (h : divR (settleF d s k * s) 1000000 = 0) : ∀ m, settleF d s (k + m) = settleF d s k
  | 0 => rfl
  | m + 1 => by
    have ih := settle_still h m
    show settleF d s (k + m) - divR (settleF d s (k + m) * s) 1000000 = settleF d s k
    rw [ih, h, Int.sub_zero]
theorem settle_zero {d s : Int} {k : Nat} (h : settleF d s k = 0) : divR (settleF d s k * s) 1000000 = 0 := by
  rw [h, Int.zero_mul]; rfl
theorem settledAfter_any (d s : Int) (T : Nat) (w : World) (h1 : 0 ≤ d) (h2 : d ≤ 1000000) (h3 : 0 ≤ s) (h4 : s ≤ 1000000) (hT : T ≤ 1000000) :
    Calls Try.prog 99 #[.int .i64 d, .int .i64 s, .int .i64 T] w fun e w' => e = .returned (.int .i64 (settleF d s T)) ∧ ∃ n, w.drewN n = w' := by
  go_enter Try.func99, Try.ntmps99
  go_wp2
  go_loopw [0, 8] (fun x i wr => ∃ k : Nat, k ≤ T ∧ i = .int .i64 k ∧ x = .int .i64 (settleF d s k) ∧ ∃ n, w.drewN n = wr) (fun _ i _ => T - (intOf i).toNat)
  case atStart => exact ⟨0, Nat.zero_le _, rfl, rfl, 0, rfl⟩
  case round =>
    obtain ⟨k, hk, rfl, rfl, n, rfl⟩ := hrel
    have hs := settle_bd h1 h2 h3 h4 k
    obtain ⟨a, b⟩ := hs
    obtain ⟨c1, c2, c3, c4⟩ := settle_step a b h3 h4
    by_cases hlt : k < T
    · go_wp2_with (go_at_call 77; refine (divRound_any _ _ _ (by omega) (by omega) (by omega) (by omega)).mono ?_; rintro e w' ⟨rfl, _, rfl⟩)
      go_roundw
      case rel => exact ⟨k + 1, by omega, by go_num, rfl, _, rfl⟩
      case measure => simp [intOf]; omega
    · obtain rfl : k = T := by omega
      go_wp2
      go_ret
      exact ⟨rfl, _, rfl⟩
theorem l14Settled_any (d s : Int) (T : Nat) (w : World) (h1 : 0 ≤ d) (h2 : d ≤ 1000000) (h3 : 0 ≤ s) (h4 : s ≤ 1000000) (hT : T ≤ 1000000) :
    Calls Try.prog 97 #[.int .i64 d, .int .i64 s, .int .i64 T] w fun e w' => e = .returned (.int .i64 (settleF d s T)) ∧ w = w' := by
  go_enter Try.func97, Try.ntmps97
  go_wp2
  go_loop [0, 7] (fun x i => ∃ k : Nat, k ≤ T ∧ i = .int .i64 k ∧ x = .int .i64 (settleF d s k)) (fun _ i => T - (intOf i).toNat)
  case atStart => exact ⟨0, Nat.zero_le _, rfl, rfl⟩
  case round =>
    obtain ⟨k, hk, rfl, rfl⟩ := hrel
    have hs := settle_bd h1 h2 h3 h4 k
    obtain ⟨a, b⟩ := hs
    obtain ⟨c1, c2, c3, c4⟩ := settle_step a b h3 h4
    by_cases hlt : k < T
    · by_cases hz : settleF d s k = 0
      · have e : settleF d s T = settleF d s k := by
          have := settle_still (settle_zero hz) (T - k)
          rwa [show k + (T - k) = T by omega] at this
        have E := Lib.hid e
        have hz' : settleF d s k ≤ 0 := by omega
        clear e hz
        go_wp2
        go_ret
        exact ⟨ret_int E.out.symm, rfl⟩
      · have hp : 0 < settleF d s k := by omega
        by_cases hl : divR (settleF d s k * s) 1000000 = 0
        · have e : settleF d s T = settleF d s k := by
            have := settle_still hl (T - k)
            rwa [show k + (T - k) = T by omega] at this
          have E := Lib.hid e
          have hl' : (divR (settleF d s k * s) 1000000 == 0) = true := by simp [hl]
          clear e hz hl
          go_wp2_with (go_at_call 74; refine (l01Div_any _ _ _ (by omega) (by omega) (by omega) (by omega)).mono ?_; rintro e w' ⟨rfl, rfl⟩)
          go_ret
          exact ⟨ret_int E.out.symm, rfl⟩
        · have hl' : (divR (settleF d s k * s) 1000000 == 0) = false := by simp [hl]
          clear hz hl
          go_wp2_with (go_at_call 74; refine (l01Div_any _ _ _ (by omega) (by omega) (by omega) (by omega)).mono ?_; rintro e w' ⟨rfl, rfl⟩)
          go_round
          case rel => exact ⟨k + 1, by omega, by go_num, rfl⟩
          case measure => simp [intOf]; omega
    · obtain rfl : k = T := by omega
      go_wp2
      go_ret
      exact ⟨rfl, rfl⟩

end Go.Proofs.Ytiiidloobfimcaa
