/- A loop that asks each place of a list in turn and stops at the first that fails; whether a list rises: the program's test and the reference's. Conditions: the lengths that each theorem names. -/
import Derived.Test.YtlgagnbnjfneaaaBase
import Derived.Test.YtlgagnbnjfneaaaList
import Derived.Test.YtlgagnbnjfneaaaHof
import Derived.Test.YtlgagnbnjfneaaaQuiet
import Derived.IntWalk
namespace Go.Proofs.Ytlgagnbnjfneaaa
open Go.RowKit
open Pl
/-- All places below n have a property. -/
def allUp (P : Nat → Bool) : Nat → Bool | 0 => true | n + 1 => allUp P n && P n
theorem allUp_iff (P : Nat → Bool) (n : Nat) : allUp P n = true ↔ ∀ k, k < n → P k = true := by
  induction n with
  | zero => simp [allUp]
  | succ n ih =>
    unfold allUp
    rw [Bool.and_eq_true, ih]
    constructor
    · rintro ⟨h1, h2⟩ k hk
      by_cases e : k = n
      · subst e; exact h2
      · exact h1 k (by omega)
    · intro h; exact ⟨fun k hk => h k (by omega), h n (by omega)⟩
theorem first_stop (P : Nat → Bool) : ∀ n, ∃ m, m ≤ n ∧ (∀ k, k < m → P k = true) ∧ (m < n → P m = false)
  | 0 => ⟨0, by omega, fun k h => by omega, fun h => by omega⟩
  | n + 1 => by
    obtain ⟨m, h1, h2, h3⟩ := first_stop P n
    by_cases e : m < n
    · exact ⟨m, by omega, h2, fun _ => h3 e⟩
    · have e : m = n := by omega
      subst e
      cases hp : P m
      · exact ⟨m, by omega, h2, fun _ => hp⟩
      · exact ⟨m + 1, by omega, fun k hk => by by_cases e : k = m; (subst e; exact hp); exact h2 k (by omega), fun h => by omega⟩
theorem allUp_stop {P : Nat → Bool} {n m : Nat} (h1 : m ≤ n) (h2 : ∀ k, k < m → P k = true) (h3 : m < n → P m = false) : allUp P n = decide (m = n) := by
  rw [Bool.eq_iff_iff, allUp_iff, decide_eq_true_iff]
  constructor
  · intro h
    by_cases e : m < n
    · have := h m e; rw [h3 e] at this; simp at this
    · omega
  · intro e; subst e; exact h2
/-- The first place below n that hasn't a property; n, if all have. -/
def stopAt (P : Nat → Bool) : Nat → Nat | 0 => 0 | n + 1 => if stopAt P n < n then stopAt P n else if P n then n + 1 else n
theorem stopAt_spec (P : Nat → Bool) : ∀ n, stopAt P n ≤ n ∧ (∀ k, k < stopAt P n → P k = true) ∧ (stopAt P n < n → P (stopAt P n) = false)
  | 0 => ⟨by simp [stopAt], fun k h => by simp [stopAt] at h, fun h => by simp [stopAt] at h⟩
  | n + 1 => by
    obtain ⟨h1, h2, h3⟩ := stopAt_spec P n
    unfold stopAt
    by_cases e : stopAt P n < n
    · rw [if_pos e]; exact ⟨by omega, h2, fun _ => h3 e⟩
    · rw [if_neg e]
      have e : stopAt P n = n := by omega
      rw [e] at h2
      cases hp : P n
      · simp only [Bool.false_eq_true, if_false]; exact ⟨by omega, h2, fun _ => hp⟩
      · simp only [if_true]; exact ⟨by omega, fun k hk => by by_cases e : k = n; (subst e; exact hp); exact h2 k (by omega), fun h => by omega⟩
theorem getD_pt {xs : List Int} {k : Nat} (h : k < xs.length) : xs.getD k 0 = xs[k] := by simp [List.getD, h]
theorem Ints.atD {B : Nat} {w : World} {A : Option Addr} {xs : List Int} (h : Ints B w A xs) {k : Nat} (hk : k < xs.length) : ∃ ad, A = some ad ∧ ad.block < B ∧ w.cell? (ad.add k) = some (.int .i64 (xs.getD k 0)) := by
  rw [getD_pt hk]; exact h.at_ hk
theorem Fits.atD {xs : List Int} (h : Fits xs) (k : Nat) : -9223372036854775808 ≤ xs.getD k 0 ∧ xs.getD k 0 ≤ 9223372036854775807 := by
  by_cases hk : k < xs.length
  · rw [getD_pt hk]; exact h _ (List.getElem_mem hk)
  · simp [List.getD, List.getElem?_eq_none (by omega : xs.length ≤ k)]
/-- A list rises. -/
def incP (xs : List Int) (k : Nat) : Bool := decide (k = 0) || decide (xs.getD (k - 1) 0 < xs.getD k 0)
def incB (xs : List Int) : Bool := allUp (incP xs) xs.length
theorem incP_succ (xs : List Int) (k : Nat) : incP xs (k + 1) = decide (xs.getD k 0 < xs.getD (k + 1) 0) := by unfold incP; simp
theorem allIn_up (xs : List Int) (lo hi : Int) : allIn xs lo hi = allUp (fun k => inB (xs.getD k 0) lo hi) xs.length := by
  rw [Bool.eq_iff_iff, allUp_iff, allIn_iff]
  constructor
  · intro h k hk; rw [getD_pt hk]; exact inB_mk (h _ (List.getElem_mem hk))
  · intro h x hx
    obtain ⟨k, hk, rfl⟩ := List.getElem_of_mem hx
    have := h k hk
    rw [getD_pt hk] at this
    exact inB_iff.1 this
theorem allUp_and (P Q : Nat → Bool) (n : Nat) : allUp (fun k => P k && Q k) n = (allUp P n && allUp Q n) := by
  rw [Bool.eq_iff_iff, Bool.and_eq_true, allUp_iff, allUp_iff, allUp_iff]
  constructor
  · intro h; exact ⟨fun k hk => (Bool.and_eq_true _ _ ▸ h k hk).1, fun k hk => (Bool.and_eq_true _ _ ▸ h k hk).2⟩
  · rintro ⟨h1, h2⟩ k hk; rw [Bool.and_eq_true]; exact ⟨h1 k hk, h2 k hk⟩
theorem ret_ii {a b c d : Int} (h : (a, b) = (c, d)) : Ending.returned (.tuple #[.int .i64 a, .int .i64 b]) = .returned (.tuple #[.int .i64 c, .int .i64 d]) := by injection h with h1 h2; rw [h1, h2]
theorem ret_bool {a b : Bool} (h : a = b) : Ending.returned (.bool a) = .returned (.bool b) := by rw [h]
set_option maxRecDepth 100000 in
theorem increasing_any (A : Option Addr) (c : Nat) (xs : List Int) (B : Nat) (w : World) (hn : (xs.length : Int) ≤ 1099511627776) (hI : Ints B w A xs) :
    Calls Try.prog 149 #[.slice A xs.length c] w fun e w' => e = .returned (.bool (incB xs)) ∧ ∃ n, w.drewN n = w' := by
  obtain ⟨m, h1, h2, h3⟩ := first_stop (incP xs) xs.length
  unfold incB
  rw [allUp_stop h1 h2 h3]
  obtain ⟨R, hR⟩ : ∃ R, R = decide (m = xs.length) := ⟨_, rfl⟩
  rw [← hR]
  have HR := Lib.hid hR
  clear hR
  have hm0 : 0 < xs.length → 0 < m := fun h => Nat.pos_of_ne_zero fun e => by have := h3 (by omega); rw [e] at this; simp [incP] at this
  have HM := Lib.hid hm0
  have H2 := Lib.hid h2
  have H3 := Lib.hid h3
  have HI := Lib.hid hI
  clear h2 h3 hI hm0
  go_enter Try.func149, Try.ntmps149
  go_wp2
  go_loopw [3] (fun i wr => ∃ k : Nat, (k + 1 ≤ m ∨ k = 0) ∧ i = .int .i64 (k + 1 : Nat) ∧ ∃ n, w.drewN n = wr) (fun i _ => xs.length - (intOf i).toNat)
  case atStart => exact ⟨0, .inr rfl, rfl, 0, rfl⟩
  case round =>
    obtain ⟨k, hk, rfl, n, rfl⟩ := hrel
    by_cases hlt : k + 1 < xs.length
    · have hmm := HM.out (by omega)
      obtain ⟨ad, rfl, _, hc1⟩ := HI.out.atD (k := k) (by omega)
      obtain ⟨ad', h', _, hc2⟩ := HI.out.atD (k := k + 1) (by omega)
      cases h'
      obtain ⟨j, hj⟩ : ∃ j, j = k + 1 := ⟨_, rfl⟩
      have i0 : (0 : Int) ≤ (j : Int) := by omega
      have i1 : (j : Int) < xs.length := by omega
      have j0 : (0 : Int) ≤ (k : Int) := by omega
      have j1 : (k : Int) < xs.length := by omega
      by_cases hb : k + 1 < m
      · have hp := H2.out (k + 1) hb
        rw [incP_succ] at hp
        have hp' := of_decide_eq_true hp
        have hp2 : decide (xs.getD (k + 1) 0 ≤ xs.getD k 0) = false := decide_eq_false (by omega)
        rw [← hj] at hc2 hp2 ⊢
        generalize xs.getD k 0 = x at *
        generalize xs.getD j 0 = y at *
        have HJ := Lib.hid hj
        have hw : IntKind.i64.wrap ((j : Int) - 1) = (k : Int) := by rw [IntWalk.i64_in _ (by omega)]; omega
        clear hj hp hp'
        go_wp2
        go_quiet (fail)
        clear hw
        go_wp2
        go_roundw
        case rel => exact ⟨k + 1, by have := HJ.out; omega, by have := HJ.out; go_num, _, rfl⟩
        case measure => have := HJ.out; simp [intOf]; omega
      · have hmk : m = k + 1 := by omega
        have hp := H3.out (by omega)
        rw [hmk, incP_succ] at hp
        have hp' := of_decide_eq_false hp
        have hp2 : decide (xs.getD (k + 1) 0 ≤ xs.getD k 0) = true := decide_eq_true (by omega)
        have hne : decide (m = xs.length) = false := decide_eq_false (by omega)
        have HN := Lib.hid hne
        rw [← hj] at hc2 hp2 ⊢
        generalize xs.getD k 0 = x at *
        generalize xs.getD j 0 = y at *
        have HJ := Lib.hid hj
        have hw : IntKind.i64.wrap ((j : Int) - 1) = (k : Int) := by rw [IntWalk.i64_in _ (by omega)]; omega
        clear hj hp hp' hmk hne
        go_wp2
        go_quiet (fail)
        clear hw
        go_wp2
        go_ret
        exact ⟨ret_bool (by rw [HR.out, HN.out]), _, (World.drewN_drewN _ _ _).symm⟩
    · have hne : m = xs.length := by
        by_cases e : 0 < xs.length
        · have := HM.out e; omega
        · omega
      have HN := Lib.hid (decide_eq_true hne)
      have hk2 : (xs.length : Int) ≤ ((k + 1 : Nat) : Int) := by omega
      clear hne
      go_wp2
      go_ret
      exact ⟨ret_bool (by rw [HR.out, HN.out]), _, rfl⟩
def risesP (xs : List Int) (lo hi : Int) (k : Nat) : Bool := inB (xs.getD k 0) lo hi && incP xs k
theorem rises_eq (xs : List Int) (lo hi : Int) : allUp (risesP xs lo hi) xs.length = (allIn xs lo hi && incB xs) := by
  have := allUp_and (fun k => inB (xs.getD k 0) lo hi) (incP xs) xs.length
  rw [allIn_up]; unfold incB; rw [← this]; rfl
set_option maxRecDepth 100000 in
set_option maxHeartbeats 3200000 in
theorem l00Rises_any (A : Option Addr) (c : Nat) (xs : List Int) (lo hi : Int) (B : Nat) (w : World) (hn : (xs.length : Int) ≤ 1099511627776) (hI : Ints B w A xs) :
    Calls Try.prog 106 #[.slice A xs.length c, .int .i64 lo, .int .i64 hi] w fun e w' => e = .returned (.bool (allIn xs lo hi && incB xs)) ∧ ∃ n, w.drewN n = w' := by
  obtain ⟨m, h1, h2, h3⟩ := first_stop (risesP xs lo hi) xs.length
  rw [← rises_eq, allUp_stop h1 h2 h3]
  obtain ⟨R, hR⟩ : ∃ R, R = decide (m = xs.length) := ⟨_, rfl⟩
  rw [← hR]
  have HR := Lib.hid hR
  clear hR
  have H2 := Lib.hid h2
  have H3 := Lib.hid h3
  have HI := Lib.hid hI
  clear h2 h3 hI
  go_enter Try.func106, Try.ntmps106
  go_wp2
  go_loopw [7] (fun i wr => ∃ k : Nat, k ≤ m ∧ i = .int .i64 k ∧ ∃ n, w.drewN n = wr) (fun i _ => xs.length - (intOf i).toNat)
  case atStart => exact ⟨0, Nat.zero_le _, rfl, 0, rfl⟩
  case round =>
    obtain ⟨k, hk, rfl, n, rfl⟩ := hrel
    by_cases hlt : k < xs.length
    · obtain ⟨ad, rfl, _, hc2⟩ := HI.out.atD hlt
      have i0 : (0 : Int) ≤ (k : Int) := by omega
      have i1 : (k : Int) < xs.length := by omega
      by_cases hb : k < m
      · have hp := H2.out k hb
        unfold risesP at hp
        rw [Bool.and_eq_true] at hp
        obtain ⟨hp1, hp2⟩ := hp
        have HL := Lib.hid (fun W => eqb (l00In_any (xs.getD k 0) lo hi W) hp1)
        clear hp1
        by_cases hk0 : k = 0
        · have hz : decide (0 < k) = false := decide_eq_false (by omega)
          clear hp2 hk0
          generalize xs.getD k 0 = y at *
          go_wp2
          go_big_quiet ((go_at_call 60; first | (with_reducible exact quiet_s (HL.out _)) | (with_reducible exact quiet_s2 (HL.out _))))
          go_wp2
          go_roundw
          case rel => exact ⟨k + 1, by omega, by go_num, _, rfl⟩
          case measure => simp [intOf]; omega
        · obtain ⟨q, hq⟩ : ∃ q, k = q + 1 := ⟨k - 1, by omega⟩
          have hz : decide (0 < k) = true := decide_eq_true (by omega)
          rw [hq, incP_succ, ← hq] at hp2
          have hp' := of_decide_eq_true hp2
          have hp3 : decide (xs.getD q 0 ≥ xs.getD k 0) = false := decide_eq_false (by omega)
          obtain ⟨ad', h', _, hc1⟩ := HI.out.atD (k := q) (by omega)
          cases h'
          have j0 : (0 : Int) ≤ (q : Int) := by omega
          have j1 : (q : Int) < xs.length := by omega
          generalize xs.getD q 0 = x at *
          generalize xs.getD k 0 = y at *
          have hw : IntKind.i64.wrap ((k : Int) - 1) = (q : Int) := by rw [IntWalk.i64_in _ (by omega)]; omega
          clear hq hp2 hp' hk0
          go_wp2
          go_big_quiet ((go_at_call 60; first | (with_reducible exact quiet_s (HL.out _)) | (with_reducible exact quiet_s2 (HL.out _))))
          clear hw
          go_wp2
          go_roundw
          case rel => exact ⟨k + 1, by omega, by go_num, _, rfl⟩
          case measure => simp [intOf]; omega
      · obtain rfl : m = k := by omega
        have hp := H3.out hlt
        have HN := Lib.hid (decide_eq_false (show ¬ m = xs.length by omega))
        unfold risesP at hp
        cases hp1 : inB (xs.getD m 0) lo hi
        · have HL := Lib.hid (fun W => eqb (l00In_any (xs.getD m 0) lo hi W) hp1)
          clear hp1 hp
          generalize xs.getD m 0 = y at *
          go_wp2
          go_big_quiet ((go_at_call 60; first | (with_reducible exact quiet_s (HL.out _)) | (with_reducible exact quiet_s2 (HL.out _))))
          go_wp2
          go_ret
          exact ⟨ret_bool (by rw [HR.out, HN.out]), _, (World.drewN_drewN _ _ _).symm⟩
        · have HL := Lib.hid (fun W => eqb (l00In_any (xs.getD m 0) lo hi W) hp1)
          rw [hp1] at hp
          clear hp1
          rw [Bool.true_and] at hp
          have hk0 : ¬ m = 0 := fun e => by subst e; simp [incP] at hp
          obtain ⟨q, hq⟩ : ∃ q, m = q + 1 := ⟨m - 1, by omega⟩
          have hz : decide (0 < m) = true := decide_eq_true (by omega)
          rw [hq, incP_succ, ← hq] at hp
          have hp' := of_decide_eq_false hp
          have hp3 : decide (xs.getD q 0 ≥ xs.getD m 0) = true := decide_eq_true (by omega)
          obtain ⟨ad', h', _, hc1⟩ := HI.out.atD (k := q) (by omega)
          cases h'
          have j0 : (0 : Int) ≤ (q : Int) := by omega
          have j1 : (q : Int) < xs.length := by omega
          generalize xs.getD q 0 = x at *
          generalize xs.getD m 0 = y at *
          have hw : IntKind.i64.wrap ((m : Int) - 1) = (q : Int) := by rw [IntWalk.i64_in _ (by omega)]; omega
          clear hq hp hp' hk0
          go_wp2
          go_big_quiet ((go_at_call 60; first | (with_reducible exact quiet_s (HL.out _)) | (with_reducible exact quiet_s2 (HL.out _))))
          clear hw
          go_wp2
          go_ret
          exact ⟨ret_bool (by rw [HR.out, HN.out]), _, (World.drewN_drewN _ _ _).symm⟩
    · obtain rfl : m = k := by omega
      have HN := Lib.hid (decide_eq_true (show m = xs.length by omega))
      go_wp2
      go_ret
      exact ⟨ret_bool (by rw [HR.out, HN.out]), _, rfl⟩
end Go.Proofs.Ytlgagnbnjfneaaa
