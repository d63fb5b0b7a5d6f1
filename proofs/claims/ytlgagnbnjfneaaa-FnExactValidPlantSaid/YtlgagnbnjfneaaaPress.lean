/- Pressures that fit a mine, by the reference. Conditions: the facts on memory and on lengths that the theorem names. -/
import Derived.Test.YtlgagnbnjfneaaaHasF
namespace Go.Proofs.Ytlgagnbnjfneaaa
open Go.RowKit
open Pl
set_option maxRecDepth 100000 in
theorem l07Pressures_any (bm om : Nat) (A : Option Addr) (cp nx : Nat) (A2 : Option Addr) (c2 : Nat) (dr : List Int) (B : Nat) (w : World) (_ : (nx : Int) ≤ 1099511627776) (hn : (dr.length : Int) ≤ 1099511627776) (hI : Ints B w A2 dr) (mm : w.cell? ⟨bm, om + 1, none⟩ = some (.slice A nx cp)) :
    Calls Try.prog 128 #[.pointer (some ⟨bm, om, none⟩), .slice A2 dr.length c2] w fun e w' => e = .returned (.bool (decide ((dr.length : Int) = nx) && allIn dr (-100000) 100000)) ∧ ∃ n, w.drewN n = w' := by
  obtain ⟨m, m1, m2, m3, m4⟩ := any_stop (fun x : Int => !inB x (-100000) 100000) dr 0
  obtain ⟨R, hR⟩ : ∃ R, R = (decide ((dr.length : Int) = nx) && allIn dr (-100000) 100000) := ⟨_, rfl⟩
  rw [← hR]
  have HR : Hid (R = (decide ((dr.length : Int) = nx) && !decide (m < dr.length))) := Lib.hid (by
    have e : allIn dr (-100000) 100000 = !(dr.any fun x => !inB x (-100000) 100000) := by unfold allIn; rw [List.not_any_eq_all_not]; simp
    rw [hR, e, m4])
  have M2 := Lib.hid m2
  have M3 := Lib.hid m3
  have J0 := Lib.hid hI
  clear hR m2 m3 m4 hI
  go_enter Try.func128, Try.ntmps128
  go_wp2
  go_loopw [5] (fun i wr => ∃ q : Nat, q ≤ m ∧ i = .int .i64 q ∧ w = wr) (fun i _ => dr.length - (intOf i).toNat)
  case atStart => exact ⟨0, Nat.zero_le _, rfl, rfl⟩
  case round =>
    obtain ⟨q, hq, rfl, rfl⟩ := hrel
    by_cases hlt : q < dr.length
    · obtain ⟨ad, rfl, _, hc⟩ := J0.out.at_ (k := q) hlt
      have e : dr.getD q 0 = dr[q] := by simp [List.getD, hlt]
      have i0 : (0 : Int) ≤ (q : Int) := by omega
      have i1 : (q : Int) < dr.length := by omega
      by_cases hqm : q < m
      · have hb := M2.out q hqm
        rw [e] at hb
        have hb : (!inB dr[q] (-100000) 100000) = false := hb
        rw [Bool.not_eq_false'] at hb
        generalize dr[q] = x at *
        clear e
        go_wp2_with (go_at_call 60; refine (eqb (l00In_any _ _ _ _) hb).mono ?_; rintro e w' ⟨rfl, rfl⟩)
        go_roundw
        case rel => exact ⟨q + 1, by omega, by go_num, by first | trivial | rfl⟩
        case measure => simp [intOf]; omega
      · obtain rfl : m = q := by omega
        have hb := M3.out hlt
        rw [e] at hb
        have hb : (!inB dr[m] (-100000) 100000) = true := hb
        rw [Bool.not_eq_true'] at hb
        have HD := Lib.hid (decide_eq_true hlt)
        generalize dr[m] = x at *
        clear e
        go_wp2_with (go_at_call 60; refine (eqb (l00In_any _ _ _ _) hb).mono ?_; rintro e w' ⟨rfl, rfl⟩)
        go_ret
        exact ⟨ret_bool (by rw [HR.out, HD.out]; simp), 0, rfl⟩
    · have HD := Lib.hid (decide_eq_false (show ¬ m < dr.length by omega))
      by_cases hl : (dr.length : Int) = nx
      · have HL := Lib.hid (decide_eq_true hl)
        have hlb : ((dr.length : Int) == (nx : Int)) = true := by rw [beq_iff_eq]; exact hl
        clear hl
        go_wp2
        go_ret
        exact ⟨ret_bool (by rw [HR.out, HD.out, HL.out]; first | rfl | simp [hlb]), 0, rfl⟩
      · have HL := Lib.hid (decide_eq_false hl)
        have hlb : ((dr.length : Int) == (nx : Int)) = false := by rw [beq_eq_false_iff_ne]; exact hl
        clear hl
        go_wp2
        go_ret
        exact ⟨ret_bool (by rw [HR.out, HD.out, HL.out]; first | rfl | simp [hlb]), 0, rfl⟩
end Go.Proofs.Ytlgagnbnjfneaaa
