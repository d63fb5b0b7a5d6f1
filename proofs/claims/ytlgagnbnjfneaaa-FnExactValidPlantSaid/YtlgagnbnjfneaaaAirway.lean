/- Airways: when one is valid, by the program and by the reference; copies and sizes; how long a walk along one takes; and the walk of the law. Conditions: the facts on memory and on lengths that each theorem names. -/
import Derived.Test.YtlgagnbnjfneaaaBase
import Derived.Test.YtlgagnbnjfneaaaName
import Derived.Test.YtlgagnbnjfneaaaQuiet
import Derived.Handy
import Derived.Lib.Hide
import Derived.IntWalk
import Derived.BigQuiet
namespace Go.Proofs.Ytlgagnbnjfneaaa
open Go.RowKit
open Pl
/-- A valid airway. -/
noncomputable def airwayB (s : ByteArray) (f t l c r k : Int) : Bool := nameB s && (inB f 0 15 && (inB t 0 15 && (!(f == t) && (inB l 1 10000 && (inB c 50 5000 && (inB r 1 1000 && inB k 0 1000))))))
theorem airwayB_bd {s : ByteArray} {f t l c r k : Int} (h : airwayB s f t l c r k = true) : (0 ≤ f ∧ f ≤ 15) ∧ (0 ≤ t ∧ t ≤ 15) ∧ f ≠ t ∧ (1 ≤ l ∧ l ≤ 10000) ∧ (50 ≤ c ∧ c ≤ 5000) ∧ (1 ≤ r ∧ r ≤ 1000) ∧ (0 ≤ k ∧ k ≤ 1000) := by
  unfold airwayB at h
  simp only [Bool.and_eq_true, Bool.not_eq_true', beq_eq_false_iff_ne] at h
  obtain ⟨_, h1, h2, h3, h4, h5, h6, h7⟩ := h
  exact ⟨inB_iff.1 h1, inB_iff.1 h2, h3, inB_iff.1 h4, inB_iff.1 h5, inB_iff.1 h6, inB_iff.1 h7⟩
theorem ValidAirway_i (s : ByteArray) (f t l c r k : Int) (w : World) (hs : s.size ≤ maxLen) :
    Calls Try.prog 91 #[.agg #[.string s, .int .i64 f, .int .i64 t, .int .i64 l, .int .i64 c, .int .i64 r, .int .i64 k]] w fun e w' => e = .returned (.bool (airwayB s f t l c r k)) ∧ Below w.heap.size w w' := by
  unfold airwayB
  cases h0 : nameB s
  · go_enter Try.func91, Try.ntmps91
    go_wp2_with (first | (go_at_call 54; refine (within_any _ _ _ _).mono ?_; rintro e w' ⟨rfl, rfl⟩) | (go_at_call 143; refine (junctionOk_any _ _).mono ?_; rintro e w' ⟨rfl, rfl⟩) | (go_at_call 142; refine (IsName_any _ _ hs).mono ?_; rintro e w' ⟨rfl, rfl⟩))
    go_ret
    exact ⟨rfl, by go_grown⟩
  · cases h1 : inB f 0 15
    · go_enter Try.func91, Try.ntmps91
      go_wp2_with (first | (go_at_call 54; refine (within_any _ _ _ _).mono ?_; rintro e w' ⟨rfl, rfl⟩) | (go_at_call 143; refine (junctionOk_any _ _).mono ?_; rintro e w' ⟨rfl, rfl⟩) | (go_at_call 142; refine (IsName_any _ _ hs).mono ?_; rintro e w' ⟨rfl, rfl⟩))
      go_ret
      exact ⟨rfl, by go_grown⟩
    · obtain ⟨h1a, h1b⟩ := inB_iff.1 h1
      cases h2 : inB t 0 15
      · go_enter Try.func91, Try.ntmps91
        go_wp2_with (first | (go_at_call 54; refine (within_any _ _ _ _).mono ?_; rintro e w' ⟨rfl, rfl⟩) | (go_at_call 143; refine (junctionOk_any _ _).mono ?_; rintro e w' ⟨rfl, rfl⟩) | (go_at_call 142; refine (IsName_any _ _ hs).mono ?_; rintro e w' ⟨rfl, rfl⟩))
        go_ret
        exact ⟨rfl, by go_grown⟩
      · obtain ⟨h2a, h2b⟩ := inB_iff.1 h2
        by_cases hft : f = t
        · have e3 : (f == t) = true := by simp [hft]
          have e4 : (f != t) = false := by simp [hft]
          rw [e3]
          have E := Lib.hid e4
          clear hft e3
          go_enter Try.func91, Try.ntmps91
          go_wp2_with (first | (go_at_call 54; refine (within_any _ _ _ _).mono ?_; rintro e w' ⟨rfl, rfl⟩) | (go_at_call 143; refine (junctionOk_any _ _).mono ?_; rintro e w' ⟨rfl, rfl⟩) | (go_at_call 142; refine (IsName_any _ _ hs).mono ?_; rintro e w' ⟨rfl, rfl⟩))
          go_ret
          exact ⟨rfl, by go_grown⟩
        · have e3 : (f == t) = false := by simp [hft]
          have e4 : (f != t) = true := by simp [hft]
          rw [e3]
          clear hft e3
          cases h4 : inB l 1 10000
          · go_enter Try.func91, Try.ntmps91
            go_wp2_with (first | (go_at_call 54; refine (within_any _ _ _ _).mono ?_; rintro e w' ⟨rfl, rfl⟩) | (go_at_call 143; refine (junctionOk_any _ _).mono ?_; rintro e w' ⟨rfl, rfl⟩) | (go_at_call 142; refine (IsName_any _ _ hs).mono ?_; rintro e w' ⟨rfl, rfl⟩))
            go_ret
            exact ⟨rfl, by go_grown⟩
          · cases h5 : inB c 50 5000
            · go_enter Try.func91, Try.ntmps91
              go_wp2_with (first | (go_at_call 54; refine (within_any _ _ _ _).mono ?_; rintro e w' ⟨rfl, rfl⟩) | (go_at_call 143; refine (junctionOk_any _ _).mono ?_; rintro e w' ⟨rfl, rfl⟩) | (go_at_call 142; refine (IsName_any _ _ hs).mono ?_; rintro e w' ⟨rfl, rfl⟩))
              go_ret
              exact ⟨rfl, by go_grown⟩
            · cases h6 : inB r 1 1000
              · go_enter Try.func91, Try.ntmps91
                go_wp2_with (first | (go_at_call 54; refine (within_any _ _ _ _).mono ?_; rintro e w' ⟨rfl, rfl⟩) | (go_at_call 143; refine (junctionOk_any _ _).mono ?_; rintro e w' ⟨rfl, rfl⟩) | (go_at_call 142; refine (IsName_any _ _ hs).mono ?_; rintro e w' ⟨rfl, rfl⟩))
                go_ret
                exact ⟨rfl, by go_grown⟩
              · go_enter Try.func91, Try.ntmps91
                go_wp2_with (first | (go_at_call 54; refine (within_any _ _ _ _).mono ?_; rintro e w' ⟨rfl, rfl⟩) | (go_at_call 143; refine (junctionOk_any _ _).mono ?_; rintro e w' ⟨rfl, rfl⟩) | (go_at_call 142; refine (IsName_any _ _ hs).mono ?_; rintro e w' ⟨rfl, rfl⟩))
                go_ret
                exact ⟨rfl, by go_grown⟩
set_option maxRecDepth 100000 in
set_option maxHeartbeats 800000 in
theorem l03Ok_a (b o : Nat) (s : ByteArray) (f t l c r k : Int) (w : World) (hs : s.size ≤ maxLen) (c0 : w.cell? ⟨b, o, none⟩ = some (.string s)) (_ : w.cell? ⟨b, o + 1, none⟩ = some (.int .i64 f)) (_ : w.cell? ⟨b, o + 2, none⟩ = some (.int .i64 t)) (_ : w.cell? ⟨b, o + 3, none⟩ = some (.int .i64 l)) (_ : w.cell? ⟨b, o + 4, none⟩ = some (.int .i64 c)) (_ : w.cell? ⟨b, o + 5, none⟩ = some (.int .i64 r)) (_ : w.cell? ⟨b, o + 6, none⟩ = some (.int .i64 k)) (h0 : nameB s = false) :
    Calls Try.prog 87 #[.pointer (some ⟨b, o, none⟩)] w fun e w' => e = .returned (.bool false) ∧ ∃ n, w.drewN n = w' := by
  have HQ0 := Lib.hid (fun W => eqb (l01Name_any s W hs) h0)
  clear h0
  clear hs
  go_enter Try.func87, Try.ntmps87
  go_wp2_with fail
  go_big_quiet (first | (go_at_call 140; first | (with_reducible exact quiet_s (HQ0.out _)) | (with_reducible exact quiet_s2 (HQ0.out _))))
  go_wp2
  go_ret
  exact ⟨rfl, _, rfl⟩
set_option maxRecDepth 100000 in
set_option maxHeartbeats 800000 in
theorem l03Ok_b (b o : Nat) (s : ByteArray) (f t l c r k : Int) (w : World) (hs : s.size ≤ maxLen) (c0 : w.cell? ⟨b, o, none⟩ = some (.string s)) (c1 : w.cell? ⟨b, o + 1, none⟩ = some (.int .i64 f)) (_ : w.cell? ⟨b, o + 2, none⟩ = some (.int .i64 t)) (_ : w.cell? ⟨b, o + 3, none⟩ = some (.int .i64 l)) (_ : w.cell? ⟨b, o + 4, none⟩ = some (.int .i64 c)) (_ : w.cell? ⟨b, o + 5, none⟩ = some (.int .i64 r)) (_ : w.cell? ⟨b, o + 6, none⟩ = some (.int .i64 k)) (h0 : nameB s = true) (h1 : inB f 0 15 = false) :
    Calls Try.prog 87 #[.pointer (some ⟨b, o, none⟩)] w fun e w' => e = .returned (.bool false) ∧ ∃ n, w.drewN n = w' := by
  have HQ0 := Lib.hid (fun W => eqb (l01Name_any s W hs) h0)
  clear h0
  have HQ1 := Lib.hid (fun W => eqb (l00In_any f 0 15 W) h1)
  clear h1
  clear hs
  go_enter Try.func87, Try.ntmps87
  go_wp2_with fail
  go_big_quiet (first | (go_at_call 140; first | (with_reducible exact quiet_s (HQ0.out _)) | (with_reducible exact quiet_s2 (HQ0.out _))) | (go_at_call 60; first | (with_reducible exact quiet_s (HQ1.out _)) | (with_reducible exact quiet_s2 (HQ1.out _))))
  go_wp2
  go_ret
  exact ⟨rfl, _, rfl⟩
set_option maxRecDepth 100000 in
set_option maxHeartbeats 800000 in
theorem l03Ok_c (b o : Nat) (s : ByteArray) (f t l c r k : Int) (w : World) (hs : s.size ≤ maxLen) (c0 : w.cell? ⟨b, o, none⟩ = some (.string s)) (c1 : w.cell? ⟨b, o + 1, none⟩ = some (.int .i64 f)) (c2 : w.cell? ⟨b, o + 2, none⟩ = some (.int .i64 t)) (_ : w.cell? ⟨b, o + 3, none⟩ = some (.int .i64 l)) (_ : w.cell? ⟨b, o + 4, none⟩ = some (.int .i64 c)) (_ : w.cell? ⟨b, o + 5, none⟩ = some (.int .i64 r)) (_ : w.cell? ⟨b, o + 6, none⟩ = some (.int .i64 k)) (h0 : nameB s = true) (h1 : inB f 0 15 = true) (h2 : inB t 0 15 = false) :
    Calls Try.prog 87 #[.pointer (some ⟨b, o, none⟩)] w fun e w' => e = .returned (.bool false) ∧ ∃ n, w.drewN n = w' := by
  have HQ0 := Lib.hid (fun W => eqb (l01Name_any s W hs) h0)
  clear h0
  have HQ1 := Lib.hid (fun W => eqb (l00In_any f 0 15 W) h1)
  clear h1
  have HQ2 := Lib.hid (fun W => eqb (l00In_any t 0 15 W) h2)
  clear h2
  clear hs
  go_enter Try.func87, Try.ntmps87
  go_wp2_with fail
  go_big_quiet (first | (go_at_call 140; first | (with_reducible exact quiet_s (HQ0.out _)) | (with_reducible exact quiet_s2 (HQ0.out _))) | (go_at_call 60; first | (with_reducible exact quiet_s (HQ1.out _)) | (with_reducible exact quiet_s2 (HQ1.out _))) | (go_at_call 60; first | (with_reducible exact quiet_s (HQ2.out _)) | (with_reducible exact quiet_s2 (HQ2.out _))))
  go_wp2
  go_ret
  exact ⟨rfl, _, rfl⟩
set_option maxRecDepth 100000 in
set_option maxHeartbeats 800000 in
theorem l03Ok_d (b o : Nat) (s : ByteArray) (f t l c r k : Int) (w : World) (hs : s.size ≤ maxLen) (c0 : w.cell? ⟨b, o, none⟩ = some (.string s)) (c1 : w.cell? ⟨b, o + 1, none⟩ = some (.int .i64 f)) (c2 : w.cell? ⟨b, o + 2, none⟩ = some (.int .i64 t)) (_ : w.cell? ⟨b, o + 3, none⟩ = some (.int .i64 l)) (_ : w.cell? ⟨b, o + 4, none⟩ = some (.int .i64 c)) (_ : w.cell? ⟨b, o + 5, none⟩ = some (.int .i64 r)) (_ : w.cell? ⟨b, o + 6, none⟩ = some (.int .i64 k)) (h0 : nameB s = true) (h1 : inB f 0 15 = true) (h2 : inB t 0 15 = true) (h3 : (f == t) = true) :
    Calls Try.prog 87 #[.pointer (some ⟨b, o, none⟩)] w fun e w' => e = .returned (.bool false) ∧ ∃ n, w.drewN n = w' := by
  have HQ0 := Lib.hid (fun W => eqb (l01Name_any s W hs) h0)
  clear h0
  have HQ1 := Lib.hid (fun W => eqb (l00In_any f 0 15 W) h1)
  clear h1
  have HQ2 := Lib.hid (fun W => eqb (l00In_any t 0 15 W) h2)
  clear h2
  clear hs
  go_enter Try.func87, Try.ntmps87
  go_wp2_with fail
  go_big_quiet (first | (go_at_call 140; first | (with_reducible exact quiet_s (HQ0.out _)) | (with_reducible exact quiet_s2 (HQ0.out _))) | (go_at_call 60; first | (with_reducible exact quiet_s (HQ1.out _)) | (with_reducible exact quiet_s2 (HQ1.out _))) | (go_at_call 60; first | (with_reducible exact quiet_s (HQ2.out _)) | (with_reducible exact quiet_s2 (HQ2.out _))))
  go_wp2
  go_ret
  exact ⟨rfl, _, rfl⟩
set_option maxRecDepth 100000 in
set_option maxHeartbeats 800000 in
theorem l03Ok_e (b o : Nat) (s : ByteArray) (f t l c r k : Int) (w : World) (hs : s.size ≤ maxLen) (c0 : w.cell? ⟨b, o, none⟩ = some (.string s)) (c1 : w.cell? ⟨b, o + 1, none⟩ = some (.int .i64 f)) (c2 : w.cell? ⟨b, o + 2, none⟩ = some (.int .i64 t)) (c3 : w.cell? ⟨b, o + 3, none⟩ = some (.int .i64 l)) (c4 : w.cell? ⟨b, o + 4, none⟩ = some (.int .i64 c)) (c5 : w.cell? ⟨b, o + 5, none⟩ = some (.int .i64 r)) (c6 : w.cell? ⟨b, o + 6, none⟩ = some (.int .i64 k)) (h0 : nameB s = true) (h1 : inB f 0 15 = true) (h2 : inB t 0 15 = true) (h3 : (f == t) = false) :
    Calls Try.prog 87 #[.pointer (some ⟨b, o, none⟩)] w fun e w' => e = .returned (.bool (inB l 1 10000 && (inB c 50 5000 && (inB r 1 1000 && inB k 0 1000)))) ∧ ∃ n, w.drewN n = w' := by
  have HQ0 := Lib.hid (fun W => eqb (l01Name_any s W hs) h0)
  clear h0
  have HQ1 := Lib.hid (fun W => eqb (l00In_any f 0 15 W) h1)
  clear h1
  have HQ2 := Lib.hid (fun W => eqb (l00In_any t 0 15 W) h2)
  clear h2
  clear hs
  go_enter Try.func87, Try.ntmps87
  go_wp2_with fail
  go_big_quiet (first | (go_at_call 140; first | (with_reducible exact quiet_s (HQ0.out _)) | (with_reducible exact quiet_s2 (HQ0.out _))) | (go_at_call 60; first | (with_reducible exact quiet_s (HQ1.out _)) | (with_reducible exact quiet_s2 (HQ1.out _))) | (go_at_call 60; first | (with_reducible exact quiet_s (HQ2.out _)) | (with_reducible exact quiet_s2 (HQ2.out _))))
  cases h4 : inB l 1 10000
  · go_wp2_with (go_at_call 60; refine (l00In_any _ _ _ _).mono ?_; rintro e w' ⟨rfl, rfl⟩)
    go_ret
    exact ⟨by simp [h4], _, rfl⟩
  · cases h5 : inB c 50 5000
    · go_wp2_with (go_at_call 60; refine (l00In_any _ _ _ _).mono ?_; rintro e w' ⟨rfl, rfl⟩)
      go_ret
      exact ⟨by simp [h4, h5], _, rfl⟩
    · cases h6 : inB r 1 1000
      · go_wp2_with (go_at_call 60; refine (l00In_any _ _ _ _).mono ?_; rintro e w' ⟨rfl, rfl⟩)
        go_ret
        exact ⟨by simp [h4, h5, h6], _, rfl⟩
      · go_wp2_with (go_at_call 60; refine (l00In_any _ _ _ _).mono ?_; rintro e w' ⟨rfl, rfl⟩)
        go_ret
        exact ⟨by simp [h4, h5, h6], _, rfl⟩
theorem l03Ok_any (b o : Nat) (s : ByteArray) (f t l c r k : Int) (w : World) (hs : s.size ≤ maxLen) (c0 : w.cell? ⟨b, o, none⟩ = some (.string s)) (c1 : w.cell? ⟨b, o + 1, none⟩ = some (.int .i64 f)) (c2 : w.cell? ⟨b, o + 2, none⟩ = some (.int .i64 t)) (c3 : w.cell? ⟨b, o + 3, none⟩ = some (.int .i64 l)) (c4 : w.cell? ⟨b, o + 4, none⟩ = some (.int .i64 c)) (c5 : w.cell? ⟨b, o + 5, none⟩ = some (.int .i64 r)) (c6 : w.cell? ⟨b, o + 6, none⟩ = some (.int .i64 k)) :
    Calls Try.prog 87 #[.pointer (some ⟨b, o, none⟩)] w fun e w' => e = .returned (.bool (airwayB s f t l c r k)) ∧ ∃ n, w.drewN n = w' := by
  unfold airwayB
  cases h0 : nameB s
  · exact l03Ok_a b o s f t l c r k w hs c0 c1 c2 c3 c4 c5 c6 h0
  · cases h1 : inB f 0 15
    · exact l03Ok_b b o s f t l c r k w hs c0 c1 c2 c3 c4 c5 c6 h0 h1
    · cases h2 : inB t 0 15
      · exact l03Ok_c b o s f t l c r k w hs c0 c1 c2 c3 c4 c5 c6 h0 h1 h2
      · cases h3 : f == t
        · exact l03Ok_e b o s f t l c r k w hs c0 c1 c2 c3 c4 c5 c6 h0 h1 h2 h3
        · exact l03Ok_d b o s f t l c r k w hs c0 c1 c2 c3 c4 c5 c6 h0 h1 h2 h3
theorem toAirway_any (s : ByteArray) (f t l c r k : Int) (w : World) :
    Calls Try.prog 90 #[.agg #[.string s, .int .i64 f, .int .i64 t, .int .i64 l, .int .i64 c, .int .i64 r, .int .i64 k]] w fun e w' => e = .returned (.agg #[.string s, .int .i64 f, .int .i64 t, .int .i64 l, .int .i64 c, .int .i64 r, .int .i64 k]) ∧ Below w.heap.size w w' := by
  go_enter Try.func90, Try.ntmps90
  go_wp2
  go_returns
  exact ⟨rfl, by go_grown⟩
theorem szAirway_yes (s : ByteArray) (f t l c r k : Int) (left : Int) (w : World) (h0 : left ≤ 1048576) (h : s.size ≤ left) :
    Calls Try.prog 86 #[.agg #[.string s, .int .i64 f, .int .i64 t, .int .i64 l, .int .i64 c, .int .i64 r, .int .i64 k], .int .i64 left] w fun e w' => e = .returned (.int .i64 (left - s.size)) ∧ Below w.heap.size w w' := by
  go_enter Try.func86, Try.ntmps86
  go_wp2
  go_ret
  exact ⟨rfl, by go_grown⟩
theorem szAirway_no (s : ByteArray) (f t l c r k : Int) (left : Int) (w : World) (h0 : 0 ≤ left) (h1 : left ≤ 1048576) (hs : s.size ≤ maxLen) (h : left < s.size) :
    Calls Try.prog 86 #[.agg #[.string s, .int .i64 f, .int .i64 t, .int .i64 l, .int .i64 c, .int .i64 r, .int .i64 k], .int .i64 left] w fun e w' => e = .returned (.int .i64 (-1)) ∧ Below w.heap.size w w' := by
  unfold maxLen at hs
  go_enter Try.func86, Try.ntmps86
  go_wp2
  go_ret
  exact ⟨rfl, by go_grown⟩
end Go.Proofs.Ytlgagnbnjfneaaa
