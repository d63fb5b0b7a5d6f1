/- Headings: when one is valid, by the program and by the reference; copies and sizes; and the walk of the law. Conditions: the facts on memory and on lengths that each theorem names. -/
import Derived.Test.YtbdbohcdbpbdkaaBase
import Derived.Test.YtbdbohcdbpbdkaaName
import Derived.Handy
namespace Go.Proofs.Ytbdbohcdbpbdkaa
open Go.RowKit
open Pl
/-- A valid heading. -/
noncomputable def headingB (s : ByteArray) (v r : Int) : Bool := nameB s && (inB v 1 100000 && (inB r 0 1000000))
theorem ValidHeading_i (s : ByteArray) (v r : Int) (w : World) (hs : s.size ≤ maxLen) :
    Calls Try.prog 34 #[.agg #[.string s, .int .i64 v, .int .i64 r]] w fun e w' => e = .returned (.bool (headingB s v r)) ∧ Below w.heap.size w w' := by
  unfold headingB
  cases h0 : nameB s
  · go_enter Try.func34, Try.ntmps34
    go_wp2_with (first | (go_at_call 44; refine (within_any _ _ _ _).mono ?_; rintro e w' ⟨rfl, rfl⟩) | (go_at_call 58; refine (IsName_any _ _ hs).mono ?_; rintro e w' ⟨rfl, rfl⟩))
    go_ret
    exact ⟨rfl, by go_grown⟩
  · cases h1 : inB v 1 100000
    · go_enter Try.func34, Try.ntmps34
      go_wp2_with (first | (go_at_call 44; refine (within_any _ _ _ _).mono ?_; rintro e w' ⟨rfl, rfl⟩) | (go_at_call 58; refine (IsName_any _ _ hs).mono ?_; rintro e w' ⟨rfl, rfl⟩))
      go_ret
      exact ⟨rfl, by go_grown⟩
    · obtain ⟨h1a, h1b⟩ := inB_iff.1 h1
      go_enter Try.func34, Try.ntmps34
      go_wp2_with (first | (go_at_call 44; refine (within_any _ _ _ _).mono ?_; rintro e w' ⟨rfl, rfl⟩) | (go_at_call 58; refine (IsName_any _ _ hs).mono ?_; rintro e w' ⟨rfl, rfl⟩))
      go_ret
      exact ⟨rfl, by go_grown⟩
theorem l15Ok_any (b o : Nat) (s : ByteArray) (v r : Int) (w : World) (hs : s.size ≤ maxLen) (c0 : w.cell? ⟨b, o, none⟩ = some (.string s)) (c1 : w.cell? ⟨b, o + 1, none⟩ = some (.int .i64 v)) (c2 : w.cell? ⟨b, o + 2, none⟩ = some (.int .i64 r)) :
    Calls Try.prog 57 #[.pointer (some ⟨b, o, none⟩)] w fun e w' => e = .returned (.bool (headingB s v r)) ∧ ∃ n, w.drewN n = w' := by
  unfold headingB
  cases h0 : nameB s
  · go_enter Try.func57, Try.ntmps57
    go_wp2_with (first | (go_at_call 42; refine (l00In_any _ _ _ _).mono ?_; rintro e w' ⟨rfl, rfl⟩) | (go_at_call 68; refine (l01Name_any _ _ hs).mono ?_; rintro e w' ⟨rfl, rfl⟩))
    go_ret
    exact ⟨rfl, 0, rfl⟩
  · cases h1 : inB v 1 100000
    · go_enter Try.func57, Try.ntmps57
      go_wp2_with (first | (go_at_call 42; refine (l00In_any _ _ _ _).mono ?_; rintro e w' ⟨rfl, rfl⟩) | (go_at_call 68; refine (l01Name_any _ _ hs).mono ?_; rintro e w' ⟨rfl, rfl⟩))
      go_ret
      exact ⟨rfl, 0, rfl⟩
    · obtain ⟨h1a, h1b⟩ := inB_iff.1 h1
      go_enter Try.func57, Try.ntmps57
      go_wp2_with (first | (go_at_call 42; refine (l00In_any _ _ _ _).mono ?_; rintro e w' ⟨rfl, rfl⟩) | (go_at_call 68; refine (l01Name_any _ _ hs).mono ?_; rintro e w' ⟨rfl, rfl⟩))
      go_ret
      exact ⟨rfl, 0, rfl⟩
theorem toHeading_any (s : ByteArray) (v r : Int) (w : World) :
    Calls Try.prog 33 #[.agg #[.string s, .int .i64 v, .int .i64 r]] w fun e w' => e = .returned (.agg #[.string s, .int .i64 v, .int .i64 r]) ∧ Below w.heap.size w w' := by
  go_enter Try.func33, Try.ntmps33
  go_wp2
  go_returns
  exact ⟨rfl, by go_grown⟩
theorem szHeading_yes (s : ByteArray) (v r : Int) (left : Int) (w : World) (h0 : left ≤ 1048576) (h : s.size ≤ left) :
    Calls Try.prog 31 #[.agg #[.string s, .int .i64 v, .int .i64 r], .int .i64 left] w fun e w' => e = .returned (.int .i64 (left - s.size)) ∧ Below w.heap.size w w' := by
  go_enter Try.func31, Try.ntmps31
  go_wp2
  go_ret
  exact ⟨rfl, by go_grown⟩
theorem szHeading_no (s : ByteArray) (v r : Int) (left : Int) (w : World) (h0 : 0 ≤ left) (h1 : left ≤ 1048576) (hs : s.size ≤ maxLen) (h : left < s.size) :
    Calls Try.prog 31 #[.agg #[.string s, .int .i64 v, .int .i64 r], .int .i64 left] w fun e w' => e = .returned (.int .i64 (-1)) ∧ Below w.heap.size w w' := by
  unfold maxLen at hs
  go_enter Try.func31, Try.ntmps31
  go_wp2
  go_ret
  exact ⟨rfl, by go_grown⟩
theorem ValidHeading_s (s : ByteArray) (v r : Int) (w : World) (hs : s.size ≤ maxLen) :
    Calls Try.prog 32 #[.agg #[.string s, .int .i64 v, .int .i64 r]] w fun e w' => e = .returned (.bool (headingB s v r)) ∧ Below w.heap.size w w' := by
  go_enter Try.func32, Try.ntmps32
  go_wp2_with (go_at_call 57; refine (l15Ok_any _ _ s v r _ hs (by simp) (by simp) (by simp) ).mono ?_; rintro e w' ⟨rfl, _, rfl⟩)
  go_ret
  exact ⟨rfl, below_drewN (by go_grown) _⟩
theorem fnExactValidHeading_walk (s : ByteArray) (hs : s.size ≤ maxLen) (v : Int) (_ : -9223372036854775808 ≤ v ∧ v ≤ 9223372036854775807) (r : Int) (_ : -9223372036854775808 ≤ r ∧ r ≤ 9223372036854775807) (w : World) :
    Calls Try.prog 11 #[.agg #[.string s, .int .i64 v, .int .i64 r]] w fun e w' => e = .returned (.bool true) ∧ Below w.heap.size w w' := by
  by_cases h : (s.size : Int) ≤ 1048576
  · go_enter Try.func11, Try.ntmps11
    go_wp2_with fail
    refine (szHeading_yes _ _ _ _ _ (by omega) h).mono ?_
    rintro e w1 ⟨rfl, hb1⟩
    obtain ⟨hc1, hf1⟩ := bcell hb1
    have q1_0 : w.heap.size < w1.heap.size := by have := hb1.size; simp at this; omega
    have be1 : Below w.heap.size w w1 := ((Below.refl w.heap.size w).alloc (by simp) _).trans (hb1.mono (by simp))
    go_wp2_with fail
    refine (toHeading_any _ _ _ _).mono ?_
    rintro e w2 ⟨rfl, hb2⟩
    obtain ⟨hc2, hf2⟩ := bcell hb2
    have q2_0 : w.heap.size < w2.heap.size := by have := hb2.size; omega
    have be2 : Below w.heap.size w w2 := be1.trans (hb2.mono (by omega))
    go_wp2_with fail
    refine (ValidHeading_s _ _ _ _ hs).mono ?_
    rintro e w3 ⟨rfl, hb3⟩
    obtain ⟨hc3, hf3⟩ := bcell hb3
    have q3_0 : w.heap.size < w3.heap.size := by have := hb3.size; omega
    have be3 : Below w.heap.size w w3 := be2.trans (hb3.mono (by omega))
    go_wp2_with fail
    refine (toHeading_any _ _ _ _).mono ?_
    rintro e w4 ⟨rfl, hb4⟩
    obtain ⟨hc4, hf4⟩ := bcell hb4
    have q4_0 : w.heap.size < w4.heap.size := by have := hb4.size; omega
    have be4 : Below w.heap.size w w4 := be3.trans (hb4.mono (by omega))
    go_wp2_with fail
    refine (ValidHeading_i _ _ _ _ hs).mono ?_
    rintro e w5 ⟨rfl, hb5⟩
    obtain ⟨hc5, hf5⟩ := bcell hb5
    have q5_0 : w.heap.size < w5.heap.size := by have := hb5.size; omega
    have be5 : Below w.heap.size w w5 := be4.trans (hb5.mono (by omega))
    have hbe := be5
    go_wp2_with fail
    go_ret
    exact ⟨rfl, hbe⟩
  · go_enter Try.func11, Try.ntmps11
    go_wp2_with fail
    refine (szHeading_no _ _ _ _ _ (by omega) (by omega) hs (by omega)).mono ?_
    rintro e w1 ⟨rfl, hb1⟩
    obtain ⟨hc1, hf1⟩ := bcell hb1
    have q1_0 : w.heap.size < w1.heap.size := by have := hb1.size; simp at this; omega
    have be1 : Below w.heap.size w w1 := ((Below.refl w.heap.size w).alloc (by simp) _).trans (hb1.mono (by simp))
    have hbe := be1
    go_wp2_with fail
    go_ret
    exact ⟨rfl, hbe⟩
end Go.Proofs.Ytbdbohcdbpbdkaa
