/- Ducts: when one is valid, by the program and by the reference; copies and sizes; and the walk of the law. Conditions: the facts on memory and on lengths that each theorem names. -/
import Derived.Test.YtemidjejelmdlaaDoorBase
import Derived.Test.YtemidjejelmdlaaDoorName
import Derived.Handy
namespace Go.Proofs.YtemidjejelmdlaaDoor
open Go.RowKit
open Pl
/-- A valid duct. -/
noncomputable def ductB (s : ByteArray) (l j x : Int) : Bool := nameB s && (inB l 1 2000 && (inB j 5 50 && (inB x 0 100000)))
theorem ValidDuct_i (s : ByteArray) (l j x : Int) (w : World) (hs : s.size ≤ maxLen) :
    Calls Tryd.prog 39 #[.agg #[.string s, .int .i64 l, .int .i64 j, .int .i64 x]] w fun e w' => e = .returned (.bool (ductB s l j x)) ∧ Below w.heap.size w w' := by
  unfold ductB
  cases h0 : nameB s
  · go_enter Tryd.func39, Tryd.ntmps39
    go_wp2_with (first | (go_at_call 49; refine (within_any _ _ _ _).mono ?_; rintro e w' ⟨rfl, rfl⟩) | (go_at_call 55; refine (IsName_any _ _ hs).mono ?_; rintro e w' ⟨rfl, rfl⟩))
    go_ret
    exact ⟨rfl, by go_grown⟩
  · cases h1 : inB l 1 2000
    · go_enter Tryd.func39, Tryd.ntmps39
      go_wp2_with (first | (go_at_call 49; refine (within_any _ _ _ _).mono ?_; rintro e w' ⟨rfl, rfl⟩) | (go_at_call 55; refine (IsName_any _ _ hs).mono ?_; rintro e w' ⟨rfl, rfl⟩))
      go_ret
      exact ⟨rfl, by go_grown⟩
    · obtain ⟨h1a, h1b⟩ := inB_iff.1 h1
      cases h2 : inB j 5 50
      · go_enter Tryd.func39, Tryd.ntmps39
        go_wp2_with (first | (go_at_call 49; refine (within_any _ _ _ _).mono ?_; rintro e w' ⟨rfl, rfl⟩) | (go_at_call 55; refine (IsName_any _ _ hs).mono ?_; rintro e w' ⟨rfl, rfl⟩))
        go_ret
        exact ⟨rfl, by go_grown⟩
      · obtain ⟨h2a, h2b⟩ := inB_iff.1 h2
        go_enter Tryd.func39, Tryd.ntmps39
        go_wp2_with (first | (go_at_call 49; refine (within_any _ _ _ _).mono ?_; rintro e w' ⟨rfl, rfl⟩) | (go_at_call 55; refine (IsName_any _ _ hs).mono ?_; rintro e w' ⟨rfl, rfl⟩))
        go_ret
        exact ⟨rfl, by go_grown⟩
theorem l11Ok_any (b o : Nat) (s : ByteArray) (l j x : Int) (w : World) (hs : s.size ≤ maxLen) (c0 : w.cell? ⟨b, o, none⟩ = some (.string s)) (c1 : w.cell? ⟨b, o + 1, none⟩ = some (.int .i64 l)) (c2 : w.cell? ⟨b, o + 2, none⟩ = some (.int .i64 j)) (c3 : w.cell? ⟨b, o + 3, none⟩ = some (.int .i64 x)) :
    Calls Tryd.prog 37 #[.pointer (some ⟨b, o, none⟩)] w fun e w' => e = .returned (.bool (ductB s l j x)) ∧ ∃ n, w.drewN n = w' := by
  unfold ductB
  cases h0 : nameB s
  · go_enter Tryd.func37, Tryd.ntmps37
    go_wp2_with (first | (go_at_call 54; refine (l00In_any _ _ _ _).mono ?_; rintro e w' ⟨rfl, rfl⟩) | (go_at_call 53; refine (l01Name_any _ _ hs).mono ?_; rintro e w' ⟨rfl, rfl⟩))
    go_ret
    exact ⟨rfl, 0, rfl⟩
  · cases h1 : inB l 1 2000
    · go_enter Tryd.func37, Tryd.ntmps37
      go_wp2_with (first | (go_at_call 54; refine (l00In_any _ _ _ _).mono ?_; rintro e w' ⟨rfl, rfl⟩) | (go_at_call 53; refine (l01Name_any _ _ hs).mono ?_; rintro e w' ⟨rfl, rfl⟩))
      go_ret
      exact ⟨rfl, 0, rfl⟩
    · obtain ⟨h1a, h1b⟩ := inB_iff.1 h1
      cases h2 : inB j 5 50
      · go_enter Tryd.func37, Tryd.ntmps37
        go_wp2_with (first | (go_at_call 54; refine (l00In_any _ _ _ _).mono ?_; rintro e w' ⟨rfl, rfl⟩) | (go_at_call 53; refine (l01Name_any _ _ hs).mono ?_; rintro e w' ⟨rfl, rfl⟩))
        go_ret
        exact ⟨rfl, 0, rfl⟩
      · obtain ⟨h2a, h2b⟩ := inB_iff.1 h2
        go_enter Tryd.func37, Tryd.ntmps37
        go_wp2_with (first | (go_at_call 54; refine (l00In_any _ _ _ _).mono ?_; rintro e w' ⟨rfl, rfl⟩) | (go_at_call 53; refine (l01Name_any _ _ hs).mono ?_; rintro e w' ⟨rfl, rfl⟩))
        go_ret
        exact ⟨rfl, 0, rfl⟩
theorem toDuct_any (s : ByteArray) (l j x : Int) (w : World) :
    Calls Tryd.prog 18 #[.agg #[.string s, .int .i64 l, .int .i64 j, .int .i64 x]] w fun e w' => e = .returned (.agg #[.string s, .int .i64 l, .int .i64 j, .int .i64 x]) ∧ Below w.heap.size w w' := by
  go_enter Tryd.func18, Tryd.ntmps18
  go_wp2
  go_returns
  exact ⟨rfl, by go_grown⟩
theorem szDuct_yes (s : ByteArray) (l j x : Int) (left : Int) (w : World) (h0 : left ≤ 1048576) (h : s.size ≤ left) :
    Calls Tryd.prog 16 #[.agg #[.string s, .int .i64 l, .int .i64 j, .int .i64 x], .int .i64 left] w fun e w' => e = .returned (.int .i64 (left - s.size)) ∧ Below w.heap.size w w' := by
  go_enter Tryd.func16, Tryd.ntmps16
  go_wp2
  go_ret
  exact ⟨rfl, by go_grown⟩
theorem szDuct_no (s : ByteArray) (l j x : Int) (left : Int) (w : World) (h0 : 0 ≤ left) (h1 : left ≤ 1048576) (hs : s.size ≤ maxLen) (h : left < s.size) :
    Calls Tryd.prog 16 #[.agg #[.string s, .int .i64 l, .int .i64 j, .int .i64 x], .int .i64 left] w fun e w' => e = .returned (.int .i64 (-1)) ∧ Below w.heap.size w w' := by
  unfold maxLen at hs
  go_enter Tryd.func16, Tryd.ntmps16
  go_wp2
  go_ret
  exact ⟨rfl, by go_grown⟩
end Go.Proofs.YtemidjejelmdlaaDoor
