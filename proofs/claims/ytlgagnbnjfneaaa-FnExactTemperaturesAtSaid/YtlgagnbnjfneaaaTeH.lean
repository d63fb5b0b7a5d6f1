/- Whether a number is among a list's, by the reference. Conditions: the facts on memory and on lengths that each theorem names. -/
import Derived.Test.YtlgagnbnjfneaaaUp
namespace Go.Proofs.Ytlgagnbnjfneaaa
open Go.RowKit
open Pl
set_option maxRecDepth 100000 in
theorem l00Has_any (A : Option Addr) (c : Nat) (xs : List Int) (x : Int) (B : Nat) (w : World) (hn : (xs.length : Int) ≤ 1048576) (hI : Ints B w A xs) :
    Calls Try.prog 111 #[.slice A xs.length c, .int .i64 x] w fun e w' => e = .returned (.bool (decide (x ∈ xs))) ∧ ∃ n, w.drewN n = w' := by
  obtain ⟨m, h1, h2, h3⟩ := first_stop (fun k => !(xs.getD k 0 == x)) xs.length
  have HR : Hid (decide (x ∈ xs) = decide (m < xs.length)) := Lib.hid (by
    by_cases hm : m < xs.length
    · rw [decide_eq_true hm]
      refine decide_eq_true ?_
      have := h3 hm
      simp only [Bool.not_eq_false'] at this
      rw [beq_iff_eq] at this
      rw [← this, getD_pt hm]
      exact List.getElem_mem _
    · rw [decide_eq_false hm]
      refine decide_eq_false (fun hx => ?_)
      obtain ⟨k, hk, hk2⟩ := List.getElem_of_mem hx
      have := h2 k (by omega)
      rw [getD_pt hk, hk2] at this
      simp at this)
  have H2 := Lib.hid h2
  have H3 := Lib.hid h3
  have HI := Lib.hid hI
  clear h2 h3 hI
  generalize decide (x ∈ xs) = R at *
  go_enter Try.func111, Try.ntmps111
  go_wp2
  go_loopw [5] (fun i wr => ∃ j : Nat, j ≤ m ∧ i = .int .i64 j ∧ ∃ n, w.drewN n = wr) (fun i _ => xs.length - (intOf i).toNat)
  case atStart => exact ⟨0, Nat.zero_le _, rfl, 0, rfl⟩
  case round =>
    obtain ⟨j, hj, rfl, n, rfl⟩ := hrel
    by_cases hlt : j < xs.length
    · obtain ⟨ad, rfl, _, hc⟩ := HI.out.atD hlt
      have i0 : (0 : Int) ≤ (j : Int) := by omega
      have i1 : (j : Int) < xs.length := by omega
      by_cases hlm : j < m
      · have hp := H2.out j hlm
        simp only [Bool.not_eq_true'] at hp
        generalize xs.getD j 0 = y at *
        go_wp2
        go_roundw
        case rel => exact ⟨j + 1, by omega, by go_num, _, rfl⟩
        case measure => simp [intOf]; omega
      · obtain rfl : m = j := by omega
        have hp := H3.out hlt
        simp only [Bool.not_eq_false'] at hp
        generalize xs.getD m 0 = y at *
        go_wp2
        go_ret
        exact ⟨ret_bool (by rw [HR.out, decide_eq_true hlt]), _, rfl⟩
    · go_wp2
      go_ret
      exact ⟨ret_bool (by rw [HR.out, decide_eq_false (by omega)]), _, rfl⟩
end Go.Proofs.Ytlgagnbnjfneaaa
