/- The mean loss along a duct: the program's and the reference's; and the walk of the law. The sum of a list. Conditions: the bounds that each theorem names. -/
import Derived.Test.YtlgagnbnjfneaaaLoss
import Derived.Test.YtlgagnbnjfneaaaQuiet
namespace Go.Proofs.Ytlgagnbnjfneaaa
open Go.RowKit
open Pl
/-- The sum of the first k numbers of a list. -/
def totN (xs : List Int) : Nat → Int | 0 => 0 | k + 1 => totN xs k + xs.getD k 0
theorem sumOf_any (A : Option Addr) (c n : Nat) (xs : List Int) (B : Nat) (w : World) (hn : n ≤ 1048576) (hl : xs.length = n) (hI : Ints B w A xs) (hb : ∀ k, k ≤ n → -1000000000000000 ≤ totN xs k ∧ totN xs k ≤ 1000000000000000) :
    Calls Try.prog 168 #[.slice A n c] w fun e w' => e = .returned (.int .i64 (totN xs n)) ∧ w = w' := by
  have J := Lib.hid hI
  have HB := Lib.hid hb
  have HL := Lib.hid hl
  clear hI hb hl
  go_enter Try.func168, Try.ntmps168
  go_wp2
  go_loop [3, 8] (fun s i => ∃ k : Nat, k ≤ n ∧ i = .int .i64 k ∧ s = .int .i64 (totN xs k)) (fun _ i => n - (intOf i).toNat)
  case atStart => exact ⟨0, Nat.zero_le _, rfl, rfl⟩
  case round =>
    obtain ⟨k, hk, rfl, rfl⟩ := hrel
    obtain ⟨b1, b2⟩ := HB.out k hk
    by_cases hlt : k < n
    · obtain ⟨ad, rfl, _, hc⟩ := J.out.at_ (k := k) (by rw [HL.out]; exact hlt)
      rw [← getD_at] at hc
      obtain ⟨d1, d2⟩ := HB.out (k + 1) hlt
      have hs : totN xs (k + 1) = totN xs k + xs.getD k 0 := rfl
      rw [hs] at d1 d2
      have HS := Lib.hid hs
      clear hs
      generalize totN xs k = y at *
      generalize xs.getD k 0 = x at *
      go_wp2
      go_round
      case rel => exact ⟨k + 1, by omega, by go_num, by rw [HS.out]⟩
      case measure => simp [intOf]; omega
    · obtain rfl : k = n := by omega
      go_wp2
      go_ret
      exact ⟨rfl, rfl⟩
end Go.Proofs.Ytlgagnbnjfneaaa
