/- Flows in ducts: joints, what is left behind some of them; the program's and the reference's; and the walks of the laws. Conditions: the bounds that each theorem names. -/
import Derived.Test.YtmfbdngibbkciaaDuct
import Derived.Test.YtmfbdngibbkciaaSteps
import Derived.Test.YtmfbdngibbkciaaQuiet
import Derived.Deep.RegionWith
import Derived.Outline
namespace Go.Proofs.Ytmfbdngibbkciaa
open Go.RowKit
open Pl
theorem ductB_bd {s : ByteArray} {l j x : Int} (h : ductB s l j x = true) : 1 ≤ l ∧ l ≤ 2000 ∧ 5 ≤ j ∧ j ≤ 50 ∧ 0 ≤ x ∧ x ≤ 100000 := by
  unfold ductB at h
  simp only [Bool.and_eq_true] at h
  obtain ⟨_, h1, h2, h3⟩ := h
  have a := inB_iff.1 h1; have b := inB_iff.1 h2; have c := inB_iff.1 h3
  omega
/-- The number of joints. -/
def jointsF (l j : Int) : Int := (l - 1) / j
theorem joints_bd {l j : Int} (h1 : 1 ≤ l) (h2 : l ≤ 2000) (h3 : 5 ≤ j) : 0 ≤ jointsF l j ∧ jointsF l j ≤ 2000 := by
  unfold jointsF
  have a : 0 ≤ (l - 1) / j := Int.ediv_nonneg (by omega) (by omega)
  have b : (l - 1) / j ≤ l - 1 := Int.ediv_le_self _ (by omega)
  omega
theorem joints_ex (s : ByteArray) (l j x : Int) (w : World) (h1 : 1 ≤ l) (h2 : l ≤ 2000) (h3 : 5 ≤ j) (h4 : j ≤ 50) :
    Calls Try.prog 77 #[.agg #[.string s, .int .i64 l, .int .i64 j, .int .i64 x]] w fun e w' => e = .returned (.int .i64 (jointsF l j)) ∧ w.alloc (.cells #[.string s, .int .i64 l, .int .i64 j, .int .i64 x] 48) = w' := by
  unfold jointsF
  go_enter Try.func77, Try.ntmps77
  go_wp2
  go_ret
  exact ⟨rfl, rfl⟩
theorem joints_any (s : ByteArray) (l j x : Int) (w : World) (h1 : 1 ≤ l) (h2 : l ≤ 2000) (h3 : 5 ≤ j) (h4 : j ≤ 50) :
    Calls Try.prog 77 #[.agg #[.string s, .int .i64 l, .int .i64 j, .int .i64 x]] w fun e w' => e = .returned (.int .i64 (jointsF l j)) ∧ Below w.heap.size w w' := by
  refine (joints_ex s l j x w h1 h2 h3 h4).mono ?_
  rintro e w' ⟨he, rfl⟩
  exact ⟨he, by go_grown⟩
theorem l11Joints_any (b o : Nat) (l j : Int) (w : World) (h1 : 1 ≤ l) (h2 : l ≤ 2000) (h3 : 5 ≤ j) (h4 : j ≤ 50) (c1 : w.cell? ⟨b, o + 1, none⟩ = some (.int .i64 l)) (c2 : w.cell? ⟨b, o + 2, none⟩ = some (.int .i64 j)) :
    Calls Try.prog 83 #[.pointer (some ⟨b, o, none⟩)] w fun e w' => e = .returned (.int .i64 (jointsF l j)) ∧ ∃ n, w.drewN n = w' := by
  unfold jointsF
  go_enter Try.func83, Try.ntmps83
  go_wp2
  first
  | (go_ret; exact ⟨rfl, 0, rfl⟩)
  | (go_quiet (fail)
     go_wp2
     go_ret
     exact ⟨rfl, _, rfl⟩)
theorem after_ex (s : ByteArray) (l j x : Int) (q : Int) (T : Nat) (w : World) (h1 : 0 ≤ q) (h2 : q ≤ 100000) (h3 : 0 ≤ x) (h4 : x ≤ 100000) (hT : T ≤ 2000) :
    Calls Try.prog 76 #[.agg #[.string s, .int .i64 l, .int .i64 j, .int .i64 x], .int .i64 q, .int .i64 T] w fun e w' => e = .returned (.int .i64 (settleF q x T)) ∧ ∃ n, (w.alloc (.cells #[.string s, .int .i64 l, .int .i64 j, .int .i64 x] 48)).drewN n = w' := by
  go_enter Try.func76, Try.ntmps76
  go_wp2
  go_loopw [1, 8] (fun y i wr => ∃ k : Nat, k ≤ T ∧ i = .int .i64 k ∧ y = .int .i64 (settleF q x k) ∧ ∃ n, (w.alloc (.cells #[.string s, .int .i64 l, .int .i64 j, .int .i64 x] 48)).drewN n = wr) (fun _ i _ => T - (intOf i).toNat)
  case atStart => exact ⟨0, Nat.zero_le _, rfl, rfl, 0, rfl⟩
  case round =>
    obtain ⟨k, hk, rfl, rfl, n, rfl⟩ := hrel
    obtain ⟨a, b⟩ := settle_bd (d := q) (s := x) (by omega) (by omega) h3 (by omega) k
    obtain ⟨c1, c2, c3, c4⟩ := settle_step a b h3 (by omega)
    by_cases hlt : k < T
    · go_wp2_with (go_at_call 65; refine (divRound_any _ _ _ (by omega) (by omega) (by omega) (by omega)).mono ?_; rintro e w' ⟨rfl, _, rfl⟩)
      go_roundw
      case rel => exact ⟨k + 1, by omega, by go_num, rfl, _, rfl⟩
      case measure => simp [intOf]; omega
    · obtain rfl : T = k := by omega
      go_wp2
      go_ret
      exact ⟨rfl, _, rfl⟩
theorem after_any (s : ByteArray) (l j x : Int) (q : Int) (T : Nat) (w : World) (h1 : 0 ≤ q) (h2 : q ≤ 100000) (h3 : 0 ≤ x) (h4 : x ≤ 100000) (hT : T ≤ 2000) :
    Calls Try.prog 76 #[.agg #[.string s, .int .i64 l, .int .i64 j, .int .i64 x], .int .i64 q, .int .i64 T] w fun e w' => e = .returned (.int .i64 (settleF q x T)) ∧ Below w.heap.size w w' := by
  refine (after_ex s l j x q T w h1 h2 h3 h4 hT).mono ?_
  rintro e w' ⟨he, n, rfl⟩
  exact ⟨he, below_drewN (by go_grown) _⟩
theorem l11After_any (b o : Nat) (x q : Int) (T : Nat) (w : World) (h1 : 0 ≤ q) (h2 : q ≤ 100000) (h3 : 0 ≤ x) (h4 : x ≤ 100000) (hT : T ≤ 2000) (c3 : w.cell? ⟨b, o + 3, none⟩ = some (.int .i64 x)) :
    Calls Try.prog 73 #[.pointer (some ⟨b, o, none⟩), .int .i64 q, .int .i64 T] w fun e w' => e = .returned (.int .i64 (settleF q x T)) ∧ ∃ n, w.drewN n = w' := by
  go_enter Try.func73, Try.ntmps73
  go_wp2
  go_loop [1, 7] (fun y i => ∃ k : Nat, k ≤ T ∧ i = .int .i64 k ∧ y = .int .i64 (settleF q x k)) (fun _ i => T - (intOf i).toNat)
  case atStart => exact ⟨0, Nat.zero_le _, rfl, rfl⟩
  case round =>
    obtain ⟨k, hk, rfl, rfl⟩ := hrel
    obtain ⟨a, b⟩ := settle_bd (d := q) (s := x) (by omega) (by omega) h3 (by omega) k
    obtain ⟨c1, c2, c3, c4⟩ := settle_step a b h3 (by omega)
    by_cases hlt : k < T
    · go_wp2_with (go_at_call 61; refine (l01Div_any _ _ _ (by omega) (by omega) (by omega) (by omega)).mono ?_; rintro e w' ⟨rfl, rfl⟩)
      go_round
      case rel => exact ⟨k + 1, by omega, by go_num, rfl⟩
      case measure => simp [intOf]; omega
    · obtain rfl : T = k := by omega
      go_wp2
      go_ret
      exact ⟨rfl, 0, rfl⟩
end Go.Proofs.Ytmfbdngibbkciaa
