/- Headings: when one is valid, by the program and by the reference; copies and sizes; and the walk of the law. Conditions: the facts on memory and on lengths that each theorem names. -/
import Derived.Test.YtemidjejelmdlaaDoorBase
import Derived.Test.YtemidjejelmdlaaDoorName
import Derived.Handy
namespace Go.Proofs.YtemidjejelmdlaaDoor
open Go.RowKit
open Pl
/-- A valid heading. -/
noncomputable def headingB (s : ByteArray) (v r : Int) : Bool := nameB s && (inB v 1 100000 && (inB r 0 1000000))
theorem ValidHeading_i (s : ByteArray) (v r : Int) (w : World) (hs : s.size ≤ maxLen) :
    Calls Tryd.prog 35 #[.agg #[.string s, .int .i64 v, .int .i64 r]] w fun e w' => e = .returned (.bool (headingB s v r)) ∧ Below w.heap.size w w' := by
  unfold headingB
  cases h0 : nameB s
  · go_enter Tryd.func35, Tryd.ntmps35
    go_wp2_with (first | (go_at_call 49; refine (within_any _ _ _ _).mono ?_; rintro e w' ⟨rfl, rfl⟩) | (go_at_call 55; refine (IsName_any _ _ hs).mono ?_; rintro e w' ⟨rfl, rfl⟩))
    go_ret
    exact ⟨rfl, by go_grown⟩
  · cases h1 : inB v 1 100000
    · go_enter Tryd.func35, Tryd.ntmps35
      go_wp2_with (first | (go_at_call 49; refine (within_any _ _ _ _).mono ?_; rintro e w' ⟨rfl, rfl⟩) | (go_at_call 55; refine (IsName_any _ _ hs).mono ?_; rintro e w' ⟨rfl, rfl⟩))
      go_ret
      exact ⟨rfl, by go_grown⟩
    · obtain ⟨h1a, h1b⟩ := inB_iff.1 h1
      go_enter Tryd.func35, Tryd.ntmps35
      go_wp2_with (first | (go_at_call 49; refine (within_any _ _ _ _).mono ?_; rintro e w' ⟨rfl, rfl⟩) | (go_at_call 55; refine (IsName_any _ _ hs).mono ?_; rintro e w' ⟨rfl, rfl⟩))
      go_ret
      exact ⟨rfl, by go_grown⟩
theorem l15Ok_any (b o : Nat) (s : ByteArray) (v r : Int) (w : World) (hs : s.size ≤ maxLen) (c0 : w.cell? ⟨b, o, none⟩ = some (.string s)) (c1 : w.cell? ⟨b, o + 1, none⟩ = some (.int .i64 v)) (c2 : w.cell? ⟨b, o + 2, none⟩ = some (.int .i64 r)) :
    Calls Tryd.prog 33 #[.pointer (some ⟨b, o, none⟩)] w fun e w' => e = .returned (.bool (headingB s v r)) ∧ ∃ n, w.drewN n = w' := by
  unfold headingB
  cases h0 : nameB s
  · go_enter Tryd.func33, Tryd.ntmps33
    go_wp2_with (first | (go_at_call 54; refine (l00In_any _ _ _ _).mono ?_; rintro e w' ⟨rfl, rfl⟩) | (go_at_call 53; refine (l01Name_any _ _ hs).mono ?_; rintro e w' ⟨rfl, rfl⟩))
    go_ret
    exact ⟨rfl, 0, rfl⟩
  · cases h1 : inB v 1 100000
    · go_enter Tryd.func33, Tryd.ntmps33
      go_wp2_with (first | (go_at_call 54; refine (l00In_any _ _ _ _).mono ?_; rintro e w' ⟨rfl, rfl⟩) | (go_at_call 53; refine (l01Name_any _ _ hs).mono ?_; rintro e w' ⟨rfl, rfl⟩))
      go_ret
      exact ⟨rfl, 0, rfl⟩
    · obtain ⟨h1a, h1b⟩ := inB_iff.1 h1
      go_enter Tryd.func33, Tryd.ntmps33
      go_wp2_with (first | (go_at_call 54; refine (l00In_any _ _ _ _).mono ?_; rintro e w' ⟨rfl, rfl⟩) | (go_at_call 53; refine (l01Name_any _ _ hs).mono ?_; rintro e w' ⟨rfl, rfl⟩))
      go_ret
      exact ⟨rfl, 0, rfl⟩
theorem toHeading_any (s : ByteArray) (v r : Int) (w : World) :
    Calls Tryd.prog 14 #[.agg #[.string s, .int .i64 v, .int .i64 r]] w fun e w' => e = .returned (.agg #[.string s, .int .i64 v, .int .i64 r]) ∧ Below w.heap.size w w' := by
  go_enter Tryd.func14, Tryd.ntmps14
  go_wp2
  go_returns
  exact ⟨rfl, by go_grown⟩
theorem szHeading_yes (s : ByteArray) (v r : Int) (left : Int) (w : World) (h0 : left ≤ 1048576) (h : s.size ≤ left) :
    Calls Tryd.prog 12 #[.agg #[.string s, .int .i64 v, .int .i64 r], .int .i64 left] w fun e w' => e = .returned (.int .i64 (left - s.size)) ∧ Below w.heap.size w w' := by
  go_enter Tryd.func12, Tryd.ntmps12
  go_wp2
  go_ret
  exact ⟨rfl, by go_grown⟩
theorem szHeading_no (s : ByteArray) (v r : Int) (left : Int) (w : World) (h0 : 0 ≤ left) (h1 : left ≤ 1048576) (hs : s.size ≤ maxLen) (h : left < s.size) :
    Calls Tryd.prog 12 #[.agg #[.string s, .int .i64 v, .int .i64 r], .int .i64 left] w fun e w' => e = .returned (.int .i64 (-1)) ∧ Below w.heap.size w w' := by
  unfold maxLen at hs
  go_enter Tryd.func12, Tryd.ntmps12
  go_wp2
  go_ret
  exact ⟨rfl, by go_grown⟩
end Go.Proofs.YtemidjejelmdlaaDoor
