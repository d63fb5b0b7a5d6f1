/- Ducts: when one is valid, by the program and by the reference; copies and sizes; and the walk of the law. Conditions: the facts on memory and on lengths that each theorem names. -/
import Derived.Test.YtbdbohcdbpbdkaaBase
import Derived.Test.YtbdbohcdbpbdkaaName
import Derived.Handy
namespace Go.Proofs.Ytbdbohcdbpbdkaa
open Go.RowKit
open Pl
/-- A valid duct. -/
noncomputable def ductB (s : ByteArray) (l j x : Int) : Bool := nameB s && (inB l 1 2000 && (inB j 5 50 && (inB x 0 100000)))
theorem ValidDuct_i (s : ByteArray) (l j x : Int) (w : World) (hs : s.size ≤ maxLen) :
    Calls Try.prog 38 #[.agg #[.string s, .int .i64 l, .int .i64 j, .int .i64 x]] w fun e w' => e = .returned (.bool (ductB s l j x)) ∧ Below w.heap.size w w' := by
  unfold ductB
  cases h0 : nameB s
  · go_enter Try.func38, Try.ntmps38
    go_wp2_with (first | (go_at_call 44; refine (within_any _ _ _ _).mono ?_; rintro e w' ⟨rfl, rfl⟩) | (go_at_call 58; refine (IsName_any _ _ hs).mono ?_; rintro e w' ⟨rfl, rfl⟩))
    go_ret
    exact ⟨rfl, by go_grown⟩
  · cases h1 : inB l 1 2000
    · go_enter Try.func38, Try.ntmps38
      go_wp2_with (first | (go_at_call 44; refine (within_any _ _ _ _).mono ?_; rintro e w' ⟨rfl, rfl⟩) | (go_at_call 58; refine (IsName_any _ _ hs).mono ?_; rintro e w' ⟨rfl, rfl⟩))
      go_ret
      exact ⟨rfl, by go_grown⟩
    · obtain ⟨h1a, h1b⟩ := inB_iff.1 h1
      cases h2 : inB j 5 50
      · go_enter Try.func38, Try.ntmps38
        go_wp2_with (first | (go_at_call 44; refine (within_any _ _ _ _).mono ?_; rintro e w' ⟨rfl, rfl⟩) | (go_at_call 58; refine (IsName_any _ _ hs).mono ?_; rintro e w' ⟨rfl, rfl⟩))
        go_ret
        exact ⟨rfl, by go_grown⟩
      · obtain ⟨h2a, h2b⟩ := inB_iff.1 h2
        go_enter Try.func38, Try.ntmps38
        go_wp2_with (first | (go_at_call 44; refine (within_any _ _ _ _).mono ?_; rintro e w' ⟨rfl, rfl⟩) | (go_at_call 58; refine (IsName_any _ _ hs).mono ?_; rintro e w' ⟨rfl, rfl⟩))
        go_ret
        exact ⟨rfl, by go_grown⟩
theorem l11Ok_any (b o : Nat) (s : ByteArray) (l j x : Int) (w : World) (hs : s.size ≤ maxLen) (c0 : w.cell? ⟨b, o, none⟩ = some (.string s)) (c1 : w.cell? ⟨b, o + 1, none⟩ = some (.int .i64 l)) (c2 : w.cell? ⟨b, o + 2, none⟩ = some (.int .i64 j)) (c3 : w.cell? ⟨b, o + 3, none⟩ = some (.int .i64 x)) :
    Calls Try.prog 59 #[.pointer (some ⟨b, o, none⟩)] w fun e w' => e = .returned (.bool (ductB s l j x)) ∧ ∃ n, w.drewN n = w' := by
  unfold ductB
  cases h0 : nameB s
  · go_enter Try.func59, Try.ntmps59
    go_wp2_with (first | (go_at_call 42; refine (l00In_any _ _ _ _).mono ?_; rintro e w' ⟨rfl, rfl⟩) | (go_at_call 68; refine (l01Name_any _ _ hs).mono ?_; rintro e w' ⟨rfl, rfl⟩))
    go_ret
    exact ⟨rfl, 0, rfl⟩
  · cases h1 : inB l 1 2000
    · go_enter Try.func59, Try.ntmps59
      go_wp2_with (first | (go_at_call 42; refine (l00In_any _ _ _ _).mono ?_; rintro e w' ⟨rfl, rfl⟩) | (go_at_call 68; refine (l01Name_any _ _ hs).mono ?_; rintro e w' ⟨rfl, rfl⟩))
      go_ret
      exact ⟨rfl, 0, rfl⟩
    · obtain ⟨h1a, h1b⟩ := inB_iff.1 h1
      cases h2 : inB j 5 50
      · go_enter Try.func59, Try.ntmps59
        go_wp2_with (first | (go_at_call 42; refine (l00In_any _ _ _ _).mono ?_; rintro e w' ⟨rfl, rfl⟩) | (go_at_call 68; refine (l01Name_any _ _ hs).mono ?_; rintro e w' ⟨rfl, rfl⟩))
        go_ret
        exact ⟨rfl, 0, rfl⟩
      · obtain ⟨h2a, h2b⟩ := inB_iff.1 h2
        go_enter Try.func59, Try.ntmps59
        go_wp2_with (first | (go_at_call 42; refine (l00In_any _ _ _ _).mono ?_; rintro e w' ⟨rfl, rfl⟩) | (go_at_call 68; refine (l01Name_any _ _ hs).mono ?_; rintro e w' ⟨rfl, rfl⟩))
        go_ret
        exact ⟨rfl, 0, rfl⟩
theorem toDuct_any (s : ByteArray) (l j x : Int) (w : World) :
    Calls Try.prog 37 #[.agg #[.string s, .int .i64 l, .int .i64 j, .int .i64 x]] w fun e w' => e = .returned (.agg #[.string s, .int .i64 l, .int .i64 j, .int .i64 x]) ∧ Below w.heap.size w w' := by
  go_enter Try.func37, Try.ntmps37
  go_wp2
  go_returns
  exact ⟨rfl, by go_grown⟩
theorem szDuct_yes (s : ByteArray) (l j x : Int) (left : Int) (w : World) (h0 : left ≤ 1048576) (h : s.size ≤ left) :
    Calls Try.prog 35 #[.agg #[.string s, .int .i64 l, .int .i64 j, .int .i64 x], .int .i64 left] w fun e w' => e = .returned (.int .i64 (left - s.size)) ∧ Below w.heap.size w w' := by
  go_enter Try.func35, Try.ntmps35
  go_wp2
  go_ret
  exact ⟨rfl, by go_grown⟩
theorem szDuct_no (s : ByteArray) (l j x : Int) (left : Int) (w : World) (h0 : 0 ≤ left) (h1 : left ≤ 1048576) (hs : s.size ≤ maxLen) (h : left < s.size) :
    Calls Try.prog 35 #[.agg #[.string s, .int .i64 l, .int .i64 j, .int .i64 x], .int .i64 left] w fun e w' => e = .returned (.int .i64 (-1)) ∧ Below w.heap.size w w' := by
  unfold maxLen at hs
  go_enter Try.func35, Try.ntmps35
  go_wp2
  go_ret
  exact ⟨rfl, by go_grown⟩
theorem ValidDuct_s (s : ByteArray) (l j x : Int) (w : World) (hs : s.size ≤ maxLen) :
    Calls Try.prog 36 #[.agg #[.string s, .int .i64 l, .int .i64 j, .int .i64 x]] w fun e w' => e = .returned (.bool (ductB s l j x)) ∧ Below w.heap.size w w' := by
  go_enter Try.func36, Try.ntmps36
  go_wp2_with (go_at_call 59; refine (l11Ok_any _ _ s l j x _ hs (by simp) (by simp) (by simp) (by simp) ).mono ?_; rintro e w' ⟨rfl, _, rfl⟩)
  go_ret
  exact ⟨rfl, below_drewN (by go_grown) _⟩
theorem fnExactValidDuct_walk (s : ByteArray) (hs : s.size ≤ maxLen) (l : Int) (_ : -9223372036854775808 ≤ l ∧ l ≤ 9223372036854775807) (j : Int) (_ : -9223372036854775808 ≤ j ∧ j ≤ 9223372036854775807) (x : Int) (_ : -9223372036854775808 ≤ x ∧ x ≤ 9223372036854775807) (w : World) :
    Calls Try.prog 12 #[.agg #[.string s, .int .i64 l, .int .i64 j, .int .i64 x]] w fun e w' => e = .returned (.bool true) ∧ Below w.heap.size w w' := by
  by_cases h : (s.size : Int) ≤ 1048576
  · go_enter Try.func12, Try.ntmps12
    go_wp2_with fail
    refine (szDuct_yes _ _ _ _ _ _ (by omega) h).mono ?_
    rintro e w1 ⟨rfl, hb1⟩
    obtain ⟨hc1, hf1⟩ := bcell hb1
    have q1_0 : w.heap.size < w1.heap.size := by have := hb1.size; simp at this; omega
    have be1 : Below w.heap.size w w1 := ((Below.refl w.heap.size w).alloc (by simp) _).trans (hb1.mono (by simp))
    go_wp2_with fail
    refine (toDuct_any _ _ _ _ _).mono ?_
    rintro e w2 ⟨rfl, hb2⟩
    obtain ⟨hc2, hf2⟩ := bcell hb2
    have q2_0 : w.heap.size < w2.heap.size := by have := hb2.size; omega
    have be2 : Below w.heap.size w w2 := be1.trans (hb2.mono (by omega))
    go_wp2_with fail
    refine (ValidDuct_s _ _ _ _ _ hs).mono ?_
    rintro e w3 ⟨rfl, hb3⟩
    obtain ⟨hc3, hf3⟩ := bcell hb3
    have q3_0 : w.heap.size < w3.heap.size := by have := hb3.size; omega
    have be3 : Below w.heap.size w w3 := be2.trans (hb3.mono (by omega))
    go_wp2_with fail
    refine (toDuct_any _ _ _ _ _).mono ?_
    rintro e w4 ⟨rfl, hb4⟩
    obtain ⟨hc4, hf4⟩ := bcell hb4
    have q4_0 : w.heap.size < w4.heap.size := by have := hb4.size; omega
    have be4 : Below w.heap.size w w4 := be3.trans (hb4.mono (by omega))
    go_wp2_with fail
    refine (ValidDuct_i _ _ _ _ _ hs).mono ?_
    rintro e w5 ⟨rfl, hb5⟩
    obtain ⟨hc5, hf5⟩ := bcell hb5
    have q5_0 : w.heap.size < w5.heap.size := by have := hb5.size; omega
    have be5 : Below w.heap.size w w5 := be4.trans (hb5.mono (by omega))
    have hbe := be5
    go_wp2_with fail
    go_ret
    exact ⟨rfl, hbe⟩
  · go_enter Try.func12, Try.ntmps12
    go_wp2_with fail
    refine (szDuct_no _ _ _ _ _ _ (by omega) (by omega) hs (by omega)).mono ?_
    rintro e w1 ⟨rfl, hb1⟩
    obtain ⟨hc1, hf1⟩ := bcell hb1
    have q1_0 : w.heap.size < w1.heap.size := by have := hb1.size; simp at this; omega
    have be1 : Below w.heap.size w w1 := ((Below.refl w.heap.size w).alloc (by simp) _).trans (hb1.mono (by simp))
    have hbe := be1
    go_wp2_with fail
    go_ret
    exact ⟨rfl, hbe⟩
end Go.Proofs.Ytbdbohcdbpbdkaa
