/- Contracts of the planner's small functions on numbers: each call returns what the plain Lean function says, and leaves the world as it was, but for draws of an order. Conditions: the bounds that each theorem names. -/
import Derived.Test.YtlgagnbnjfneaaaRows
import Derived.Test.YtlgagnbnjfneaaaPlain
import Derived.WalkKit
import Derived.ProofKit
import Derived.WalkLawsBesides
import Derived.Deep.QuietTactic
import Derived.BigQuiet
import Derived.Handy
import Derived.Lib.Hide
namespace Go.Proofs.Ytlgagnbnjfneaaa
open Go.RowKit
open Pl

theorem ret_int {k : IntKind} {a b : Int} (h : a = b) : Ending.returned (.int k a) = .returned (.int k b) := by rw [h]

theorem below_drewN {B : Nat} {a w : World} (h : Below B a w) (n : Nat) : Below B a (w.drewN n) := ⟨h.os, h.tape, h.output, h.size, h.block⟩

/-- What a 'Below' says of the old cells and marks, as the walk reads it. -/
theorem bcell {B : Nat} {W w1 : World} (hb : Below B W w1) :
    (∀ b o, b < B → w1.cell? ⟨b, o, none⟩ = W.cell? ⟨b, o, none⟩) ∧ (∀ b o, b < B → w1.frozen? ⟨b, o, none⟩ = W.frozen? ⟨b, o, none⟩) :=
  ⟨fun b o h => hb.cell (p := ⟨b, o, none⟩) h, fun b o h => hb.frozen (p := ⟨b, o, none⟩) h⟩

/-- Two boxes, laid one behind the other. -/
theorem box1 (w : World) (a : Value) (ta : TypeId) : (w.alloc (.cells #[a] ta)).cell? ⟨w.heap.size, 0, none⟩ = some a := by
  rw [World.cell?_alloc_at _ _ _ _ rfl]; rfl
theorem box2 (w : World) (a b : Value) (ta tb : TypeId) :
    ((w.alloc (.cells #[a] ta)).alloc (.cells #[b] tb)).cell? ⟨w.heap.size, 0, none⟩ = some a ∧ ((w.alloc (.cells #[a] ta)).alloc (.cells #[b] tb)).cell? ⟨w.heap.size + 1, 0, none⟩ = some b := by
  constructor
  · rw [World.cell?_alloc_past _ _ _ (by simp)]; exact box1 w a ta
  · simp

/-- A contract that leaves the world, or draws at most, as one that speaks of 'Below'. -/
theorem sB {P : Program} {f : FuncId} {args : Array Value} {w : World} {x : Ending} (h : Calls P f args w fun e w' => e = x ∧ w = w') : Calls P f args w fun e w' => e = x ∧ Below w.heap.size w w' :=
  h.mono fun _ _ ⟨he, hw⟩ => ⟨he, hw ▸ Below.refl _ _⟩
theorem dB {P : Program} {f : FuncId} {args : Array Value} {w : World} {x : Ending} (h : Calls P f args w fun e w' => e = x ∧ ∃ n, w.drewN n = w') : Calls P f args w fun e w' => e = x ∧ Below w.heap.size w w' :=
  h.mono fun _ _ ⟨he, n, hw⟩ => ⟨he, hw ▸ below_drewN (Below.refl _ _) n⟩

/-- A contract whose truth value is known. -/
theorem eqb {P : Program} {f : FuncId} {args : Array Value} {w : World} {b b' : Bool} (h : Calls P f args w fun e w' => e = .returned (.bool b) ∧ w = w') (hb : b = b') :
    Calls P f args w fun e w' => e = .returned (.bool b') ∧ w = w' := by rw [← hb]; exact h
theorem eqbd {P : Program} {f : FuncId} {args : Array Value} {w : World} {b b' : Bool} (h : Calls P f args w fun e w' => e = .returned (.bool b) ∧ ∃ n, w.drewN n = w') (hb : b = b') :
    Calls P f args w fun e w' => e = .returned (.bool b') ∧ ∃ n, w.drewN n = w' := by rw [← hb]; exact h

/-! ### The test of a range -/
theorem within_any (n lo hi : Int) (w : World) : Calls Try.prog 54 #[.int .i64 n, .int .i64 lo, .int .i64 hi] w fun e w' => e = .returned (.bool (inB n lo hi)) ∧ w = w' := by
  by_cases h1 : lo ≤ n
  · by_cases h2 : n ≤ hi
    · have e : inB n lo hi = true := inB_mk ⟨h1, h2⟩
      rw [e]
      go_enter Try.func54, Try.ntmps54
      go_wp2
      go_ret
      exact ⟨rfl, rfl⟩
    · have e : inB n lo hi = false := inB_no.2 (by omega)
      rw [e]
      go_enter Try.func54, Try.ntmps54
      go_wp2
      go_ret
      exact ⟨rfl, rfl⟩
  · have e : inB n lo hi = false := inB_no.2 (by omega)
    rw [e]
    go_enter Try.func54, Try.ntmps54
    go_wp2
    go_ret
    exact ⟨rfl, rfl⟩
theorem l00In_any (n lo hi : Int) (w : World) : Calls Try.prog 60 #[.int .i64 n, .int .i64 lo, .int .i64 hi] w fun e w' => e = .returned (.bool (inB n lo hi)) ∧ w = w' := by
  by_cases h1 : lo ≤ n
  · by_cases h2 : n ≤ hi
    · have e : inB n lo hi = true := inB_mk ⟨h1, h2⟩
      rw [e]
      go_enter Try.func60, Try.ntmps60
      go_wp2
      go_ret
      exact ⟨rfl, rfl⟩
    · have e : inB n lo hi = false := inB_no.2 (by omega)
      rw [e]
      go_enter Try.func60, Try.ntmps60
      go_wp2
      go_ret
      exact ⟨rfl, rfl⟩
  · have e : inB n lo hi = false := inB_no.2 (by omega)
    rw [e]
    go_enter Try.func60, Try.ntmps60
    go_wp2
    go_ret
    exact ⟨rfl, rfl⟩

/-! ### abs, divUp, divRound -/
theorem abs_any (n : Int) (w : World) (h1 : -9223372036854775807 ≤ n) (h2 : n ≤ 9223372036854775807) :
    Calls Try.prog 95 #[.int .i64 n] w fun e w' => e = .returned (.int .i64 n.natAbs) ∧ w = w' := by
  by_cases h : 0 ≤ n
  · have e : ((n.natAbs : Nat) : Int) = n := by omega
    rw [e]
    go_enter Try.func95, Try.ntmps95
    go_wp2
    all_goals go_ret
    all_goals exact ⟨ret_int (by omega), rfl⟩
  · have e : ((n.natAbs : Nat) : Int) = -n := by omega
    rw [e]
    go_enter Try.func95, Try.ntmps95
    go_wp2
    all_goals go_ret
    all_goals exact ⟨ret_int (by omega), rfl⟩
theorem divUp_any (a b : Int) (w : World) (ha : 0 ≤ a) (ha2 : a ≤ 2305843009213693952) (hb : 1 ≤ b) (hb2 : b ≤ 2305843009213693952) :
    Calls Try.prog 152 #[.int .i64 a, .int .i64 b] w fun e w' => e = .returned (.int .i64 (divU a b)) ∧ w = w' := by
  have hbb : 1 ≤ b := hb
  go_enter Try.func152, Try.ntmps152
  go_wp2
  go_ret
  exact ⟨rfl, rfl⟩

/-! ### Tests of one number's range -/
theorem resistanceOk_any (n : Int) (w : World) : Calls Try.prog 158 #[.int .i64 n] w fun e w' => e = .returned (.bool (inB n 1 1000000)) ∧ w = w' := by
  go_enter Try.func158, Try.ntmps158
  go_wp2_with (go_at_call 54; refine (within_any _ _ _ _).mono ?_; rintro e w' ⟨rfl, rfl⟩)
  go_ret
  exact ⟨rfl, rfl⟩
theorem warmthOk_any (n : Int) (w : World) : Calls Try.prog 120 #[.int .i64 n] w fun e w' => e = .returned (.bool (inB n (-100) 600)) ∧ w = w' := by
  go_enter Try.func120, Try.ntmps120
  go_wp2_with (go_at_call 54; refine (within_any _ _ _ _).mono ?_; rintro e w' ⟨rfl, rfl⟩)
  go_ret
  exact ⟨rfl, rfl⟩
theorem junctionOk_any (n : Int) (w : World) : Calls Try.prog 143 #[.int .i64 n] w fun e w' => e = .returned (.bool (inB n 0 15)) ∧ w = w' := by
  go_enter Try.func143, Try.ntmps143
  go_wp2_with (go_at_call 54; refine (within_any _ _ _ _).mono ?_; rintro e w' ⟨rfl, rfl⟩)
  go_ret
  exact ⟨rfl, rfl⟩
theorem l03Res_any (n : Int) (w : World) : Calls Try.prog 40 #[.int .i64 n] w fun e w' => e = .returned (.bool (inB n 1 1000000)) ∧ w = w' := by
  go_enter Try.func40, Try.ntmps40
  go_wp2_with (go_at_call 60; refine (l00In_any _ _ _ _).mono ?_; rintro e w' ⟨rfl, rfl⟩)
  go_ret
  exact ⟨rfl, rfl⟩
theorem l02Temperature_any (n : Int) (w : World) : Calls Try.prog 107 #[.int .i64 n] w fun e w' => e = .returned (.bool (inB n (-100) 600)) ∧ w = w' := by
  go_enter Try.func107, Try.ntmps107
  go_wp2_with (go_at_call 60; refine (l00In_any _ _ _ _).mono ?_; rintro e w' ⟨rfl, rfl⟩)
  go_ret
  exact ⟨rfl, rfl⟩
theorem l16Power_any (n : Int) (w : World) : Calls Try.prog 110 #[.int .i64 n] w fun e w' => e = .returned (.bool (inB n (-10000000) 10000000)) ∧ w = w' := by
  go_enter Try.func110, Try.ntmps110
  go_wp2_with (go_at_call 60; refine (l00In_any _ _ _ _).mono ?_; rintro e w' ⟨rfl, rfl⟩)
  go_ret
  exact ⟨rfl, rfl⟩
theorem l16Rock_any (n : Int) (w : World) : Calls Try.prog 109 #[.int .i64 n] w fun e w' => e = .returned (.bool (inB n 0 900)) ∧ w = w' := by
  go_enter Try.func109, Try.ntmps109
  go_wp2_with (go_at_call 60; refine (l00In_any _ _ _ _).mono ?_; rintro e w' ⟨rfl, rfl⟩)
  go_ret
  exact ⟨rfl, rfl⟩
theorem l16Rate_any (n : Int) (w : World) : Calls Try.prog 108 #[.int .i64 n] w fun e w' => e = .returned (.bool (inB n 0 1000)) ∧ w = w' := by
  go_enter Try.func108, Try.ntmps108
  go_wp2_with (go_at_call 60; refine (l00In_any _ _ _ _).mono ?_; rintro e w' ⟨rfl, rfl⟩)
  go_ret
  exact ⟨rfl, rfl⟩
theorem l03Flow_any (n : Int) (w : World) : Calls Try.prog 41 #[.int .i64 n] w fun e w' => e = .returned (.bool (inB n (-100000) 100000)) ∧ w = w' := by
  go_enter Try.func41, Try.ntmps41
  go_wp2_with (go_at_call 60; refine (l00In_any _ _ _ _).mono ?_; rintro e w' ⟨rfl, rfl⟩)
  go_ret
  exact ⟨rfl, rfl⟩

/-! ### The lesser, the greater -/
theorem l00Min_any (a b : Int) (w : World) : Calls Try.prog 114 #[.int .i64 a, .int .i64 b] w fun e w' => e = .returned (.int .i64 (mn a b)) ∧ w = w' := by
  by_cases h : a < b
  · rw [show mn a b = a from by unfold mn; rw [if_pos h]]
    go_enter Try.func114, Try.ntmps114
    go_wp2
    go_ret
    exact ⟨rfl, rfl⟩
  · rw [show mn a b = b from by unfold mn; rw [if_neg h]]
    go_enter Try.func114, Try.ntmps114
    go_wp2
    go_ret
    exact ⟨rfl, rfl⟩
theorem l00Max_any (a b : Int) (w : World) : Calls Try.prog 141 #[.int .i64 a, .int .i64 b] w fun e w' => e = .returned (.int .i64 (mx a b)) ∧ w = w' := by
  by_cases h : a > b
  · rw [show mx a b = a from by unfold mx; rw [if_pos h]]
    go_enter Try.func141, Try.ntmps141
    go_wp2
    go_ret
    exact ⟨rfl, rfl⟩
  · rw [show mx a b = b from by unfold mx; rw [if_neg h]]
    go_enter Try.func141, Try.ntmps141
    go_wp2
    go_ret
    exact ⟨rfl, rfl⟩

/-! ### The nearest quotient, by a positive number: the program's and the reference's -/
theorem abs_up (n : Int) (w : World) (h1 : 0 ≤ n) (h2 : n ≤ 9223372036854775807) : Calls Try.prog 95 #[.int .i64 n] w fun e w' => e = .returned (.int .i64 n) ∧ w = w' := by
  have h := abs_any n w (by omega) h2
  rw [show ((n.natAbs : Nat) : Int) = n from by omega] at h
  exact h
theorem abs_down (n : Int) (w : World) (h1 : 0 ≤ n) (h2 : n ≤ 9223372036854775807) : Calls Try.prog 95 #[.int .i64 (-n)] w fun e w' => e = .returned (.int .i64 n) ∧ w = w' := by
  have h := abs_any (-n) w (by omega) (by omega)
  rw [show (((-n).natAbs : Nat) : Int) = n from by omega] at h
  exact h
theorem divRound_up (a b : Int) (w : World) (h1 : 0 ≤ a) (h2 : a ≤ 4611686018427387904) (hb : 1 ≤ b) (hb2 : b ≤ 4611686018427387904) :
    Calls Try.prog 94 #[.int .i64 a, .int .i64 b] w fun e w' => e = .returned (.int .i64 (divR a b)) ∧ ∃ n, w.drewN n = w' := by
  have r0 : 0 ≤ a % b := Int.emod_nonneg _ (by omega)
  have r1 : a % b < b := Int.emod_lt_of_pos _ (by omega)
  have q0 : 0 ≤ a / b := Int.ediv_nonneg (by omega) (by omega)
  have q1 : a / b ≤ a := Int.ediv_le_self _ (by omega)
  have hd := divR_of_rest (a := a) (b := b) (by omega) h1
  by_cases hc : b - a % b ≤ a % b
  · rw [if_pos hc] at hd
    rw [hd]
    clear hd
    have hab : (decide (a < 0) == decide (b < 0)) = true := by rw [decide_eq_false (by omega), decide_eq_false (by omega)]; rfl
    go_enter Try.func94, Try.ntmps94
    go_wp2_with fail
    go_quiet ((go_at_call 95; exact (abs_up _ _ (by omega) (by omega)).mono (fun _ _ ⟨he, hw⟩ => ⟨he, _, hw.symm⟩)))
    go_wp2_with (go_at_call 95; refine (abs_up _ _ (by omega) (by omega)).mono ?_; rintro e w' ⟨rfl, rfl⟩)
    go_ret
    exact ⟨rfl, _, rfl⟩
  · rw [if_neg hc] at hd
    rw [hd]
    clear hd
    have hab : (decide (a < 0) == decide (b < 0)) = true := by rw [decide_eq_false (by omega), decide_eq_false (by omega)]; rfl
    go_enter Try.func94, Try.ntmps94
    go_wp2_with fail
    go_quiet ((go_at_call 95; exact (abs_up _ _ (by omega) (by omega)).mono (fun _ _ ⟨he, hw⟩ => ⟨he, _, hw.symm⟩)))
    go_wp2_with (go_at_call 95; refine (abs_up _ _ (by omega) (by omega)).mono ?_; rintro e w' ⟨rfl, rfl⟩)
    go_ret
    exact ⟨rfl, _, rfl⟩
theorem divRound_down (a b : Int) (w : World) (h1 : a < 0) (h2 : -4611686018427387904 ≤ a) (hb : 1 ≤ b) (hb2 : b ≤ 4611686018427387904) :
    Calls Try.prog 94 #[.int .i64 a, .int .i64 b] w fun e w' => e = .returned (.int .i64 (divR a b)) ∧ ∃ n, w.drewN n = w' := by
  have hd := divR_of_rest (a := -a) (b := b) (by omega) (by omega)
  rw [divR_opp (by omega)] at hd
  have r0 : 0 ≤ (-a) % b := Int.emod_nonneg _ (by omega)
  have r1 : (-a) % b < b := Int.emod_lt_of_pos _ (by omega)
  have q0 : 0 ≤ (-a) / b := Int.ediv_nonneg (by omega) (by omega)
  have q1 : (-a) / b ≤ -a := Int.ediv_le_self _ (by omega)
  have eq : a.tdiv b = -((-a) / b) := by
    have := Int.neg_tdiv (a := -a) (b := b)
    rw [Int.neg_neg, Int.tdiv_eq_ediv_of_nonneg (a := -a) (by omega)] at this
    exact this
  have er : a.tmod b = -((-a) % b) := by
    have := Int.neg_tmod (a := -a) (b := b)
    rw [Int.neg_neg, Int.tmod_eq_emod_of_nonneg (a := -a) (by omega)] at this
    exact this
  generalize (-a) / b = q at *
  generalize (-a) % b = r at *
  by_cases hc : b - r ≤ r
  · rw [if_pos hc] at hd
    rw [show divR a b = -q - 1 from by omega]
    clear hd
    have hab : (decide (a < 0) == decide (b < 0)) = false := by rw [decide_eq_true (by omega), decide_eq_false (by omega)]; rfl
    go_enter Try.func94, Try.ntmps94
    go_wp2_with fail
    go_quiet ((go_at_call 95; exact (abs_down _ _ (by omega) (by omega)).mono (fun _ _ ⟨he, hw⟩ => ⟨he, _, hw.symm⟩)))
    go_wp2_with (go_at_call 95; refine (abs_up _ _ (by omega) (by omega)).mono ?_; rintro e w' ⟨rfl, rfl⟩)
    go_ret
    exact ⟨rfl, _, rfl⟩
  · rw [if_neg hc] at hd
    rw [show divR a b = -q from by omega]
    clear hd
    have hab : (decide (a < 0) == decide (b < 0)) = false := by rw [decide_eq_true (by omega), decide_eq_false (by omega)]; rfl
    go_enter Try.func94, Try.ntmps94
    go_wp2_with fail
    go_quiet ((go_at_call 95; exact (abs_down _ _ (by omega) (by omega)).mono (fun _ _ ⟨he, hw⟩ => ⟨he, _, hw.symm⟩)))
    go_wp2_with (go_at_call 95; refine (abs_up _ _ (by omega) (by omega)).mono ?_; rintro e w' ⟨rfl, rfl⟩)
    go_ret
    exact ⟨rfl, _, rfl⟩
theorem divRound_any (a b : Int) (w : World) (h1 : -4611686018427387904 ≤ a) (h2 : a ≤ 4611686018427387904) (hb : 1 ≤ b) (hb2 : b ≤ 4611686018427387904) :
    Calls Try.prog 94 #[.int .i64 a, .int .i64 b] w fun e w' => e = .returned (.int .i64 (divR a b)) ∧ ∃ n, w.drewN n = w' := by
  by_cases h : 0 ≤ a
  · exact divRound_up a b w h h2 hb hb2
  · exact divRound_down a b w (by omega) h1 hb hb2
theorem l01Div_any (a b : Int) (w : World) (h1 : -2305843009213693952 ≤ a) (h2 : a ≤ 2305843009213693952) (hb : 1 ≤ b) (hb2 : b ≤ 2305843009213693952) :
    Calls Try.prog 88 #[.int .i64 a, .int .i64 b] w fun e w' => e = .returned (.int .i64 (divR a b)) ∧ w = w' := by
  by_cases h : a < 0
  · rw [divR_neg h]
    have q1 : 0 ≤ (b - 2 * a) / (2 * b) := Int.ediv_nonneg (by omega) (by omega)
    have q2 : (b - 2 * a) / (2 * b) ≤ b - 2 * a := Int.ediv_le_self _ (by omega)
    go_enter Try.func88, Try.ntmps88
    go_wp2
    go_ret
    exact ⟨rfl, rfl⟩
  · rw [divR_nonneg (by omega)]
    go_enter Try.func88, Try.ntmps88
    go_wp2
    go_ret
    exact ⟨rfl, rfl⟩
end Go.Proofs.Ytlgagnbnjfneaaa
