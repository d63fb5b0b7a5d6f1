/- Headings: when one is valid, by the program and by the reference; copies and sizes; and the walk of the law. Conditions: the facts on memory and on lengths that each theorem names. -/
import Derived.Test.YtiiidloobfimcaaBase
import Derived.Test.YtiiidloobfimcaaName
import Derived.Handy
namespace Go.Proofs.Ytiiidloobfimcaa
open Go.RowKit
open Pl
/-- A valid heading. -/
noncomputable def headingB (s : ByteArray) (v r : Int) : Bool := nameB s && (inB v 1 100000 && (inB r 0 1000000))
theorem ValidHeading_i (s : ByteArray) (v r : Int) (w : World) (hs : s.size ≤ maxLen) :
    Calls Try.prog 102 #[.agg #[.string s, .int .i64 v, .int .i64 r]] w fun e w' => e = .returned (.bool (headingB s v r)) ∧ Below w.heap.size w w' := by
  unfold headingB
  cases h0 : nameB s
  · go_enter Try.func102, Try.ntmps102
    go_wp2_with (first | (go_at_call 60; refine (within_any _ _ _ _).mono ?_; rintro e w' ⟨rfl, rfl⟩) | (go_at_call 108; refine (IsName_any _ _ hs).mono ?_; rintro e w' ⟨rfl, rfl⟩))
    go_ret
    exact ⟨rfl, by go_grown⟩
  · cases h1 : inB v 1 100000
    · go_enter Try.func102, Try.ntmps102
      go_wp2_with (first | (go_at_call 60; refine (within_any _ _ _ _).mono ?_; rintro e w' ⟨rfl, rfl⟩) | (go_at_call 108; refine (IsName_any _ _ hs).mono ?_; rintro e w' ⟨rfl, rfl⟩))
      go_ret
      exact ⟨rfl, by go_grown⟩
    · obtain ⟨h1a, h1b⟩ := inB_iff.1 h1
      go_enter Try.func102, Try.ntmps102
      go_wp2_with (first | (go_at_call 60; refine (within_any _ _ _ _).mono ?_; rintro e w' ⟨rfl, rfl⟩) | (go_at_call 108; refine (IsName_any _ _ hs).mono ?_; rintro e w' ⟨rfl, rfl⟩))
      go_ret
      exact ⟨rfl, by go_grown⟩
theorem l15Ok_any (b o : Nat) (s : ByteArray) (v r : Int) (w : World) (hs : s.size ≤ maxLen) (c0 : w.cell? ⟨b, o, none⟩ = some (.string s)) (c1 : w.cell? ⟨b, o + 1, none⟩ = some (.int .i64 v)) (c2 : w.cell? ⟨b, o + 2, none⟩ = some (.int .i64 r)) :
    Calls Try.prog 50 #[.pointer (some ⟨b, o, none⟩)] w fun e w' => e = .returned (.bool (headingB s v r)) ∧ ∃ n, w.drewN n = w' := by
  unfold headingB
  cases h0 : nameB s
  · go_enter Try.func50, Try.ntmps50
    go_wp2_with (first | (go_at_call 56; refine (l00In_any _ _ _ _).mono ?_; rintro e w' ⟨rfl, rfl⟩) | (go_at_call 100; refine (l01Name_any _ _ hs).mono ?_; rintro e w' ⟨rfl, rfl⟩))
    go_ret
    exact ⟨rfl, 0, rfl⟩
  · cases h1 : inB v 1 100000
    · go_enter Try.func50, Try.ntmps50
      go_wp2_with (first | (go_at_call 56; refine (l00In_any _ _ _ _).mono ?_; rintro e w' ⟨rfl, rfl⟩) | (go_at_call 100; refine (l01Name_any _ _ hs).mono ?_; rintro e w' ⟨rfl, rfl⟩))
      go_ret
      exact ⟨rfl, 0, rfl⟩
    · obtain ⟨h1a, h1b⟩ := inB_iff.1 h1
      go_enter Try.func50, Try.ntmps50
      go_wp2_with (first | (go_at_call 56; refine (l00In_any _ _ _ _).mono ?_; rintro e w' ⟨rfl, rfl⟩) | (go_at_call 100; refine (l01Name_any _ _ hs).mono ?_; rintro e w' ⟨rfl, rfl⟩))
      go_ret
      exact ⟨rfl, 0, rfl⟩
theorem toHeading_any (s : ByteArray) (v r : Int) (w : World) :
    Calls Try.prog 17 #[.agg #[.string s, .int .i64 v, .int .i64 r]] w fun e w' => e = .returned (.agg #[.string s, .int .i64 v, .int .i64 r]) ∧ Below w.heap.size w w' := by
  go_enter Try.func17, Try.ntmps17
  go_wp2
  go_returns
  exact ⟨rfl, by go_grown⟩
theorem szHeading_yes (s : ByteArray) (v r : Int) (left : Int) (w : World) (h0 : left ≤ 1048576) (h : s.size ≤ left) :
    Calls Try.prog 15 #[.agg #[.string s, .int .i64 v, .int .i64 r], .int .i64 left] w fun e w' => e = .returned (.int .i64 (left - s.size)) ∧ Below w.heap.size w w' := by
  go_enter Try.func15, Try.ntmps15
  go_wp2
  go_ret
  exact ⟨rfl, by go_grown⟩
theorem szHeading_no (s : ByteArray) (v r : Int) (left : Int) (w : World) (h0 : 0 ≤ left) (h1 : left ≤ 1048576) (hs : s.size ≤ maxLen) (h : left < s.size) :
    Calls Try.prog 15 #[.agg #[.string s, .int .i64 v, .int .i64 r], .int .i64 left] w fun e w' => e = .returned (.int .i64 (-1)) ∧ Below w.heap.size w w' := by
  unfold maxLen at hs
  go_enter Try.func15, Try.ntmps15
  go_wp2
  go_ret
  exact ⟨rfl, by go_grown⟩
end Go.Proofs.Ytiiidloobfimcaa
