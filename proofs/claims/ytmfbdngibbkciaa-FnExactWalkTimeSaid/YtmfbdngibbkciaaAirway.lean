/- Airways: when one is valid, by the program and by the reference; copies and sizes; how long a walk along one takes; and the walk of the law. Conditions: the facts on memory and on lengths that each theorem names. -/
import Derived.Test.YtmfbdngibbkciaaBase
import Derived.Test.YtmfbdngibbkciaaName
import Derived.Test.YtmfbdngibbkciaaQuiet
import Derived.Handy
import Derived.Lib.Hide
import Derived.IntWalk
import Derived.BigQuiet
namespace Go.Proofs.Ytmfbdngibbkciaa
open Go.RowKit
open Pl
/-- A valid airway. -/
noncomputable def airwayB (s : ByteArray) (f t l c r k : Int) : Bool := nameB s && (inB f 0 15 && (inB t 0 15 && (!(f == t) && (inB l 1 10000 && (inB c 50 5000 && (inB r 1 1000 && inB k 0 1000))))))
theorem airwayB_bd {s : ByteArray} {f t l c r k : Int} (h : airwayB s f t l c r k = true) : (0 ≤ f ∧ f ≤ 15) ∧ (0 ≤ t ∧ t ≤ 15) ∧ f ≠ t ∧ (1 ≤ l ∧ l ≤ 10000) ∧ (50 ≤ c ∧ c ≤ 5000) ∧ (1 ≤ r ∧ r ≤ 1000) ∧ (0 ≤ k ∧ k ≤ 1000) := by
  unfold airwayB at h
  simp only [Bool.and_eq_true, Bool.not_eq_true', beq_eq_false_iff_ne] at h
  obtain ⟨_, h1, h2, h3, h4, h5, h6, h7⟩ := h
  exact ⟨inB_iff.1 h1, inB_iff.1 h2, h3, inB_iff.1 h4, inB_iff.1 h5, inB_iff.1 h6, inB_iff.1 h7⟩
theorem ValidAirway_i (s : ByteArray) (f t l c r k : Int) (w : World) (hs : s.size ≤ maxLen) :
    Calls Try.prog 50 #[.agg #[.string s, .int .i64 f, .int .i64 t, .int .i64 l, .int .i64 c, .int .i64 r, .int .i64 k]] w fun e w' => e = .returned (.bool (airwayB s f t l c r k)) ∧ Below w.heap.size w w' := by
  unfold airwayB
  cases h0 : nameB s
  · go_enter Try.func50, Try.ntmps50
    go_wp2_with (first | (go_at_call 51; refine (within_any _ _ _ _).mono ?_; rintro e w' ⟨rfl, rfl⟩) | (go_at_call 94; refine (junctionOk_any _ _).mono ?_; rintro e w' ⟨rfl, rfl⟩) | (go_at_call 93; refine (IsName_any _ _ hs).mono ?_; rintro e w' ⟨rfl, rfl⟩))
    go_ret
    exact ⟨rfl, by go_grown⟩
  · cases h1 : inB f 0 15
    · go_enter Try.func50, Try.ntmps50
      go_wp2_with (first | (go_at_call 51; refine (within_any _ _ _ _).mono ?_; rintro e w' ⟨rfl, rfl⟩) | (go_at_call 94; refine (junctionOk_any _ _).mono ?_; rintro e w' ⟨rfl, rfl⟩) | (go_at_call 93; refine (IsName_any _ _ hs).mono ?_; rintro e w' ⟨rfl, rfl⟩))
      go_ret
      exact ⟨rfl, by go_grown⟩
    · obtain ⟨h1a, h1b⟩ := inB_iff.1 h1
      cases h2 : inB t 0 15
      · go_enter Try.func50, Try.ntmps50
        go_wp2_with (first | (go_at_call 51; refine (within_any _ _ _ _).mono ?_; rintro e w' ⟨rfl, rfl⟩) | (go_at_call 94; refine (junctionOk_any _ _).mono ?_; rintro e w' ⟨rfl, rfl⟩) | (go_at_call 93; refine (IsName_any _ _ hs).mono ?_; rintro e w' ⟨rfl, rfl⟩))
        go_ret
        exact ⟨rfl, by go_grown⟩
      · obtain ⟨h2a, h2b⟩ := inB_iff.1 h2
        by_cases hft : f = t
        · have e3 : (f == t) = true := by simp [hft]
          have e4 : (f != t) = false := by simp [hft]
          rw [e3]
          have E := Lib.hid e4
          clear hft e3
          go_enter Try.func50, Try.ntmps50
          go_wp2_with (first | (go_at_call 51; refine (within_any _ _ _ _).mono ?_; rintro e w' ⟨rfl, rfl⟩) | (go_at_call 94; refine (junctionOk_any _ _).mono ?_; rintro e w' ⟨rfl, rfl⟩) | (go_at_call 93; refine (IsName_any _ _ hs).mono ?_; rintro e w' ⟨rfl, rfl⟩))
          go_ret
          exact ⟨rfl, by go_grown⟩
        · have e3 : (f == t) = false := by simp [hft]
          have e4 : (f != t) = true := by simp [hft]
          rw [e3]
          clear hft e3
          cases h4 : inB l 1 10000
          · go_enter Try.func50, Try.ntmps50
            go_wp2_with (first | (go_at_call 51; refine (within_any _ _ _ _).mono ?_; rintro e w' ⟨rfl, rfl⟩) | (go_at_call 94; refine (junctionOk_any _ _).mono ?_; rintro e w' ⟨rfl, rfl⟩) | (go_at_call 93; refine (IsName_any _ _ hs).mono ?_; rintro e w' ⟨rfl, rfl⟩))
            go_ret
            exact ⟨rfl, by go_grown⟩
          · cases h5 : inB c 50 5000
            · go_enter Try.func50, Try.ntmps50
              go_wp2_with (first | (go_at_call 51; refine (within_any _ _ _ _).mono ?_; rintro e w' ⟨rfl, rfl⟩) | (go_at_call 94; refine (junctionOk_any _ _).mono ?_; rintro e w' ⟨rfl, rfl⟩) | (go_at_call 93; refine (IsName_any _ _ hs).mono ?_; rintro e w' ⟨rfl, rfl⟩))
              go_ret
              exact ⟨rfl, by go_grown⟩
            · cases h6 : inB r 1 1000
              · go_enter Try.func50, Try.ntmps50
                go_wp2_with (first | (go_at_call 51; refine (within_any _ _ _ _).mono ?_; rintro e w' ⟨rfl, rfl⟩) | (go_at_call 94; refine (junctionOk_any _ _).mono ?_; rintro e w' ⟨rfl, rfl⟩) | (go_at_call 93; refine (IsName_any _ _ hs).mono ?_; rintro e w' ⟨rfl, rfl⟩))
                go_ret
                exact ⟨rfl, by go_grown⟩
              · go_enter Try.func50, Try.ntmps50
                go_wp2_with (first | (go_at_call 51; refine (within_any _ _ _ _).mono ?_; rintro e w' ⟨rfl, rfl⟩) | (go_at_call 94; refine (junctionOk_any _ _).mono ?_; rintro e w' ⟨rfl, rfl⟩) | (go_at_call 93; refine (IsName_any _ _ hs).mono ?_; rintro e w' ⟨rfl, rfl⟩))
                go_ret
                exact ⟨rfl, by go_grown⟩
set_option maxRecDepth 100000 in
set_option maxHeartbeats 800000 in
theorem l03Ok_a (b o : Nat) (s : ByteArray) (f t l c r k : Int) (w : World) (hs : s.size ≤ maxLen) (c0 : w.cell? ⟨b, o, none⟩ = some (.string s)) (_ : w.cell? ⟨b, o + 1, none⟩ = some (.int .i64 f)) (_ : w.cell? ⟨b, o + 2, none⟩ = some (.int .i64 t)) (_ : w.cell? ⟨b, o + 3, none⟩ = some (.int .i64 l)) (_ : w.cell? ⟨b, o + 4, none⟩ = some (.int .i64 c)) (_ : w.cell? ⟨b, o + 5, none⟩ = some (.int .i64 r)) (_ : w.cell? ⟨b, o + 6, none⟩ = some (.int .i64 k)) (h0 : nameB s = false) :
    Calls Try.prog 47 #[.pointer (some ⟨b, o, none⟩)] w fun e w' => e = .returned (.bool false) ∧ ∃ n, w.drewN n = w' := by
  have HQ0 := Lib.hid (fun W => eqb (l01Name_any s W hs) h0)
  clear h0
  clear hs
  go_enter Try.func47, Try.ntmps47
  go_wp2_with fail
  go_big_quiet (first | (go_at_call 92; first | (with_reducible exact quiet_s (HQ0.out _)) | (with_reducible exact quiet_s2 (HQ0.out _))))
  go_wp2
  go_ret
  exact ⟨rfl, _, rfl⟩
set_option maxRecDepth 100000 in
set_option maxHeartbeats 800000 in
theorem l03Ok_b (b o : Nat) (s : ByteArray) (f t l c r k : Int) (w : World) (hs : s.size ≤ maxLen) (c0 : w.cell? ⟨b, o, none⟩ = some (.string s)) (c1 : w.cell? ⟨b, o + 1, none⟩ = some (.int .i64 f)) (_ : w.cell? ⟨b, o + 2, none⟩ = some (.int .i64 t)) (_ : w.cell? ⟨b, o + 3, none⟩ = some (.int .i64 l)) (_ : w.cell? ⟨b, o + 4, none⟩ = some (.int .i64 c)) (_ : w.cell? ⟨b, o + 5, none⟩ = some (.int .i64 r)) (_ : w.cell? ⟨b, o + 6, none⟩ = some (.int .i64 k)) (h0 : nameB s = true) (h1 : inB f 0 15 = false) :
    Calls Try.prog 47 #[.pointer (some ⟨b, o, none⟩)] w fun e w' => e = .returned (.bool false) ∧ ∃ n, w.drewN n = w' := by
  have HQ0 := Lib.hid (fun W => eqb (l01Name_any s W hs) h0)
  clear h0
  have HQ1 := Lib.hid (fun W => eqb (l00In_any f 0 15 W) h1)
  clear h1
  clear hs
  go_enter Try.func47, Try.ntmps47
  go_wp2_with fail
  go_big_quiet (first | (go_at_call 92; first | (with_reducible exact quiet_s (HQ0.out _)) | (with_reducible exact quiet_s2 (HQ0.out _))) | (go_at_call 48; first | (with_reducible exact quiet_s (HQ1.out _)) | (with_reducible exact quiet_s2 (HQ1.out _))))
  go_wp2
  go_ret
  exact ⟨rfl, _, rfl⟩
set_option maxRecDepth 100000 in
set_option maxHeartbeats 800000 in
theorem l03Ok_c (b o : Nat) (s : ByteArray) (f t l c r k : Int) (w : World) (hs : s.size ≤ maxLen) (c0 : w.cell? ⟨b, o, none⟩ = some (.string s)) (c1 : w.cell? ⟨b, o + 1, none⟩ = some (.int .i64 f)) (c2 : w.cell? ⟨b, o + 2, none⟩ = some (.int .i64 t)) (_ : w.cell? ⟨b, o + 3, none⟩ = some (.int .i64 l)) (_ : w.cell? ⟨b, o + 4, none⟩ = some (.int .i64 c)) (_ : w.cell? ⟨b, o + 5, none⟩ = some (.int .i64 r)) (_ : w.cell? ⟨b, o + 6, none⟩ = some (.int .i64 k)) (h0 : nameB s = true) (h1 : inB f 0 15 = true) (h2 : inB t 0 15 = false) :
    Calls Try.prog 47 #[.pointer (some ⟨b, o, none⟩)] w fun e w' => e = .returned (.bool false) ∧ ∃ n, w.drewN n = w' := by
  have HQ0 := Lib.hid (fun W => eqb (l01Name_any s W hs) h0)
  clear h0
  have HQ1 := Lib.hid (fun W => eqb (l00In_any f 0 15 W) h1)
  clear h1
  have HQ2 := Lib.hid (fun W => eqb (l00In_any t 0 15 W) h2)
  clear h2
  clear hs
  go_enter Try.func47, Try.ntmps47
  go_wp2_with fail
  go_big_quiet (first | (go_at_call 92; first | (with_reducible exact quiet_s (HQ0.out _)) | (with_reducible exact quiet_s2 (HQ0.out _))) | (go_at_call 48; first | (with_reducible exact quiet_s (HQ1.out _)) | (with_reducible exact quiet_s2 (HQ1.out _))) | (go_at_call 48; first | (with_reducible exact quiet_s (HQ2.out _)) | (with_reducible exact quiet_s2 (HQ2.out _))))
  go_wp2
  go_ret
  exact ⟨rfl, _, rfl⟩
set_option maxRecDepth 100000 in
set_option maxHeartbeats 800000 in
theorem l03Ok_d (b o : Nat) (s : ByteArray) (f t l c r k : Int) (w : World) (hs : s.size ≤ maxLen) (c0 : w.cell? ⟨b, o, none⟩ = some (.string s)) (c1 : w.cell? ⟨b, o + 1, none⟩ = some (.int .i64 f)) (c2 : w.cell? ⟨b, o + 2, none⟩ = some (.int .i64 t)) (_ : w.cell? ⟨b, o + 3, none⟩ = some (.int .i64 l)) (_ : w.cell? ⟨b, o + 4, none⟩ = some (.int .i64 c)) (_ : w.cell? ⟨b, o + 5, none⟩ = some (.int .i64 r)) (_ : w.cell? ⟨b, o + 6, none⟩ = some (.int .i64 k)) (h0 : nameB s = true) (h1 : inB f 0 15 = true) (h2 : inB t 0 15 = true) (h3 : (f == t) = true) :
    Calls Try.prog 47 #[.pointer (some ⟨b, o, none⟩)] w fun e w' => e = .returned (.bool false) ∧ ∃ n, w.drewN n = w' := by
  have HQ0 := Lib.hid (fun W => eqb (l01Name_any s W hs) h0)
  clear h0
  have HQ1 := Lib.hid (fun W => eqb (l00In_any f 0 15 W) h1)
  clear h1
  have HQ2 := Lib.hid (fun W => eqb (l00In_any t 0 15 W) h2)
  clear h2
  clear hs
  go_enter Try.func47, Try.ntmps47
  go_wp2_with fail
  go_big_quiet (first | (go_at_call 92; first | (with_reducible exact quiet_s (HQ0.out _)) | (with_reducible exact quiet_s2 (HQ0.out _))) | (go_at_call 48; first | (with_reducible exact quiet_s (HQ1.out _)) | (with_reducible exact quiet_s2 (HQ1.out _))) | (go_at_call 48; first | (with_reducible exact quiet_s (HQ2.out _)) | (with_reducible exact quiet_s2 (HQ2.out _))))
  go_wp2
  go_ret
  exact ⟨rfl, _, rfl⟩
set_option maxRecDepth 100000 in
set_option maxHeartbeats 800000 in
theorem l03Ok_e (b o : Nat) (s : ByteArray) (f t l c r k : Int) (w : World) (hs : s.size ≤ maxLen) (c0 : w.cell? ⟨b, o, none⟩ = some (.string s)) (c1 : w.cell? ⟨b, o + 1, none⟩ = some (.int .i64 f)) (c2 : w.cell? ⟨b, o + 2, none⟩ = some (.int .i64 t)) (c3 : w.cell? ⟨b, o + 3, none⟩ = some (.int .i64 l)) (c4 : w.cell? ⟨b, o + 4, none⟩ = some (.int .i64 c)) (c5 : w.cell? ⟨b, o + 5, none⟩ = some (.int .i64 r)) (c6 : w.cell? ⟨b, o + 6, none⟩ = some (.int .i64 k)) (h0 : nameB s = true) (h1 : inB f 0 15 = true) (h2 : inB t 0 15 = true) (h3 : (f == t) = false) :
    Calls Try.prog 47 #[.pointer (some ⟨b, o, none⟩)] w fun e w' => e = .returned (.bool (inB l 1 10000 && (inB c 50 5000 && (inB r 1 1000 && inB k 0 1000)))) ∧ ∃ n, w.drewN n = w' := by
  have HQ0 := Lib.hid (fun W => eqb (l01Name_any s W hs) h0)
  clear h0
  have HQ1 := Lib.hid (fun W => eqb (l00In_any f 0 15 W) h1)
  clear h1
  have HQ2 := Lib.hid (fun W => eqb (l00In_any t 0 15 W) h2)
  clear h2
  clear hs
  go_enter Try.func47, Try.ntmps47
  go_wp2_with fail
  go_big_quiet (first | (go_at_call 92; first | (with_reducible exact quiet_s (HQ0.out _)) | (with_reducible exact quiet_s2 (HQ0.out _))) | (go_at_call 48; first | (with_reducible exact quiet_s (HQ1.out _)) | (with_reducible exact quiet_s2 (HQ1.out _))) | (go_at_call 48; first | (with_reducible exact quiet_s (HQ2.out _)) | (with_reducible exact quiet_s2 (HQ2.out _))))
  cases h4 : inB l 1 10000
  · go_wp2_with (go_at_call 48; refine (l00In_any _ _ _ _).mono ?_; rintro e w' ⟨rfl, rfl⟩)
    go_ret
    exact ⟨by simp [h4], _, rfl⟩
  · cases h5 : inB c 50 5000
    · go_wp2_with (go_at_call 48; refine (l00In_any _ _ _ _).mono ?_; rintro e w' ⟨rfl, rfl⟩)
      go_ret
      exact ⟨by simp [h4, h5], _, rfl⟩
    · cases h6 : inB r 1 1000
      · go_wp2_with (go_at_call 48; refine (l00In_any _ _ _ _).mono ?_; rintro e w' ⟨rfl, rfl⟩)
        go_ret
        exact ⟨by simp [h4, h5, h6], _, rfl⟩
      · go_wp2_with (go_at_call 48; refine (l00In_any _ _ _ _).mono ?_; rintro e w' ⟨rfl, rfl⟩)
        go_ret
        exact ⟨by simp [h4, h5, h6], _, rfl⟩
theorem l03Ok_any (b o : Nat) (s : ByteArray) (f t l c r k : Int) (w : World) (hs : s.size ≤ maxLen) (c0 : w.cell? ⟨b, o, none⟩ = some (.string s)) (c1 : w.cell? ⟨b, o + 1, none⟩ = some (.int .i64 f)) (c2 : w.cell? ⟨b, o + 2, none⟩ = some (.int .i64 t)) (c3 : w.cell? ⟨b, o + 3, none⟩ = some (.int .i64 l)) (c4 : w.cell? ⟨b, o + 4, none⟩ = some (.int .i64 c)) (c5 : w.cell? ⟨b, o + 5, none⟩ = some (.int .i64 r)) (c6 : w.cell? ⟨b, o + 6, none⟩ = some (.int .i64 k)) :
    Calls Try.prog 47 #[.pointer (some ⟨b, o, none⟩)] w fun e w' => e = .returned (.bool (airwayB s f t l c r k)) ∧ ∃ n, w.drewN n = w' := by
  unfold airwayB
  cases h0 : nameB s
  · exact l03Ok_a b o s f t l c r k w hs c0 c1 c2 c3 c4 c5 c6 h0
  · cases h1 : inB f 0 15
    · exact l03Ok_b b o s f t l c r k w hs c0 c1 c2 c3 c4 c5 c6 h0 h1
    · cases h2 : inB t 0 15
      · exact l03Ok_c b o s f t l c r k w hs c0 c1 c2 c3 c4 c5 c6 h0 h1 h2
      · cases h3 : f == t
        · exact l03Ok_e b o s f t l c r k w hs c0 c1 c2 c3 c4 c5 c6 h0 h1 h2 h3
        · exact l03Ok_d b o s f t l c r k w hs c0 c1 c2 c3 c4 c5 c6 h0 h1 h2 h3
theorem toAirway_any (s : ByteArray) (f t l c r k : Int) (w : World) :
    Calls Try.prog 15 #[.agg #[.string s, .int .i64 f, .int .i64 t, .int .i64 l, .int .i64 c, .int .i64 r, .int .i64 k]] w fun e w' => e = .returned (.agg #[.string s, .int .i64 f, .int .i64 t, .int .i64 l, .int .i64 c, .int .i64 r, .int .i64 k]) ∧ Below w.heap.size w w' := by
  go_enter Try.func15, Try.ntmps15
  go_wp2
  go_returns
  exact ⟨rfl, by go_grown⟩
theorem szAirway_yes (s : ByteArray) (f t l c r k : Int) (left : Int) (w : World) (h0 : left ≤ 1048576) (h : s.size ≤ left) :
    Calls Try.prog 13 #[.agg #[.string s, .int .i64 f, .int .i64 t, .int .i64 l, .int .i64 c, .int .i64 r, .int .i64 k], .int .i64 left] w fun e w' => e = .returned (.int .i64 (left - s.size)) ∧ Below w.heap.size w w' := by
  go_enter Try.func13, Try.ntmps13
  go_wp2
  go_ret
  exact ⟨rfl, by go_grown⟩
theorem szAirway_no (s : ByteArray) (f t l c r k : Int) (left : Int) (w : World) (h0 : 0 ≤ left) (h1 : left ≤ 1048576) (hs : s.size ≤ maxLen) (h : left < s.size) :
    Calls Try.prog 13 #[.agg #[.string s, .int .i64 f, .int .i64 t, .int .i64 l, .int .i64 c, .int .i64 r, .int .i64 k], .int .i64 left] w fun e w' => e = .returned (.int .i64 (-1)) ∧ Below w.heap.size w w' := by
  unfold maxLen at hs
  go_enter Try.func13, Try.ntmps13
  go_wp2
  go_ret
  exact ⟨rfl, by go_grown⟩
noncomputable def walkF (s : ByteArray) (f t l c r k v : Int) : Int × Int := if airwayB s f t l c r k then (if inB v 10 300 then (divU (100 * l) v, 0) else (0, 2)) else (0, 1)
theorem walkTime_any (s : ByteArray) (f t l c r k v : Int) (w : World) (h1 : 1 ≤ l) (h2 : l ≤ 10000) (h3 : 10 ≤ v) (h4 : v ≤ 300) :
    Calls Try.prog 52 #[.agg #[.string s, .int .i64 f, .int .i64 t, .int .i64 l, .int .i64 c, .int .i64 r, .int .i64 k], .int .i64 v] w fun e w' => e = .returned (.int .i64 (divU (100 * l) v)) ∧ Below w.heap.size w w' := by
  go_enter Try.func52, Try.ntmps52
  go_wp2_with (go_at_call 95; refine (divUp_any _ _ _ (by omega) (by omega) (by omega) (by omega)).mono ?_; rintro e w' ⟨rfl, rfl⟩)
  go_ret
  exact ⟨rfl, by go_grown⟩
theorem l19Walk_any (b o : Nat) (l v : Int) (w : World) (h1 : 1 ≤ l) (h2 : l ≤ 10000) (h3 : 10 ≤ v) (h4 : v ≤ 300) (c3 : w.cell? ⟨b, o + 3, none⟩ = some (.int .i64 l)) :
    Calls Try.prog 49 #[.pointer (some ⟨b, o, none⟩), .int .i64 v] w fun e w' => e = .returned (.int .i64 (divU (100 * l) v)) ∧ w = w' := by
  unfold divU
  have q0 : 0 ≤ 100 * l + v - 1 := by omega
  go_enter Try.func49, Try.ntmps49
  go_wp2
  go_ret
  exact ⟨rfl, rfl⟩
theorem WalkTime_i (s : ByteArray) (f t l c r k v : Int) (w : World) (hs : s.size ≤ maxLen) :
    Calls Try.prog 16 #[.agg #[.string s, .int .i64 f, .int .i64 t, .int .i64 l, .int .i64 c, .int .i64 r, .int .i64 k], .int .i64 v] w fun e w' => e = .returned (.tuple #[.int .i64 (walkF s f t l c r k v).1, .int .i64 (walkF s f t l c r k v).2]) ∧ Below w.heap.size w w' := by
  unfold walkF
  cases h0 : airwayB s f t l c r k
  · have HV := Lib.hid (ValidAirway_i s f t l c r k)
    rw [h0] at HV
    go_enter Try.func16, Try.ntmps16
    go_wp2_with fail
    refine (HV.out _ hs).mono ?_
    rintro e w1 ⟨rfl, hb1⟩
    obtain ⟨hc1, hf1⟩ := bcell hb1
    have q1_0 : w.heap.size < w1.heap.size := by have := hb1.size; simp at this; omega
    have be1 : Below w.heap.size w w1 := ((Below.refl w.heap.size w).alloc (by simp) _).trans (hb1.mono (by simp))
    have hbe := be1
    go_wp2_with fail
    go_ret2
    exact ⟨by simp, hbe⟩
  · obtain ⟨_, _, _, ⟨l1, l2⟩, _⟩ := airwayB_bd h0
    have HV := Lib.hid (ValidAirway_i s f t l c r k)
    rw [h0] at HV
    clear h0
    cases h1 : inB v 10 300
    · go_enter Try.func16, Try.ntmps16
      go_wp2_with (go_at_call 51; refine (within_any _ _ _ _).mono ?_; rintro e w' ⟨rfl, rfl⟩)
      refine (HV.out _ hs).mono ?_
      rintro e w1 ⟨rfl, hb1⟩
      obtain ⟨hc1, hf1⟩ := bcell hb1
      have q1_0 : w.heap.size < w1.heap.size := by have := hb1.size; simp at this; omega
      have be1 : Below w.heap.size w w1 := ((Below.refl w.heap.size w).alloc (by simp) _).trans (hb1.mono (by simp))
      have hbe := be1
      go_wp2_with (go_at_call 51; refine (within_any _ _ _ _).mono ?_; rintro e w' ⟨rfl, rfl⟩)
      go_ret2
      exact ⟨by simp, hbe⟩
    · obtain ⟨v1, v2⟩ := inB_iff.1 h1
      go_enter Try.func16, Try.ntmps16
      go_wp2_with (go_at_call 51; refine (within_any _ _ _ _).mono ?_; rintro e w' ⟨rfl, rfl⟩)
      refine (HV.out _ hs).mono ?_
      rintro e w1 ⟨rfl, hb1⟩
      obtain ⟨hc1, hf1⟩ := bcell hb1
      have q1_0 : w.heap.size < w1.heap.size := by have := hb1.size; simp at this; omega
      have be1 : Below w.heap.size w w1 := ((Below.refl w.heap.size w).alloc (by simp) _).trans (hb1.mono (by simp))
      go_wp2_with (go_at_call 51; refine (within_any _ _ _ _).mono ?_; rintro e w' ⟨rfl, rfl⟩)
      refine (walkTime_any s f t l c r k v _ l1 l2 v1 v2).mono ?_
      rintro e w2 ⟨rfl, hb2⟩
      obtain ⟨hc2, hf2⟩ := bcell hb2
      have q2_0 : w.heap.size < w2.heap.size := by have := hb2.size; omega
      have be2 : Below w.heap.size w w2 := be1.trans (hb2.mono (by omega))
      have hbe := be2
      go_wp2_with (go_at_call 51; refine (within_any _ _ _ _).mono ?_; rintro e w' ⟨rfl, rfl⟩)
      go_ret2
      exact ⟨by simp, hbe⟩
theorem WalkTime_s (s : ByteArray) (f t l c r k v : Int) (w : World) (hs : s.size ≤ maxLen) :
    Calls Try.prog 14 #[.agg #[.string s, .int .i64 f, .int .i64 t, .int .i64 l, .int .i64 c, .int .i64 r, .int .i64 k], .int .i64 v] w fun e w' => e = .returned (.tuple #[.int .i64 (walkF s f t l c r k v).1, .int .i64 (walkF s f t l c r k v).2]) ∧ Below w.heap.size w w' := by
  unfold walkF
  cases h0 : airwayB s f t l c r k
  · go_enter Try.func14, Try.ntmps14
    go_wp2_with (go_at_call 47; refine (l03Ok_any _ _ s f t l c r k _ hs (by simp) (by simp) (by simp) (by simp) (by simp) (by simp) (by simp)).mono ?_; rintro e w' ⟨rfl, _, rfl⟩)
    go_ret2
    exact ⟨by simp, below_drewN (by go_grown) _⟩
  · obtain ⟨_, _, _, ⟨l1, l2⟩, _⟩ := airwayB_bd h0
    cases h1 : inB v 10 300
    · go_enter Try.func14, Try.ntmps14
      go_wp2_with (first | (go_at_call 48; refine (l00In_any _ _ _ _).mono ?_; rintro e w' ⟨rfl, rfl⟩) | (go_at_call 47; refine (l03Ok_any _ _ s f t l c r k _ hs (by simp) (by simp) (by simp) (by simp) (by simp) (by simp) (by simp)).mono ?_; rintro e w' ⟨rfl, _, rfl⟩))
      go_ret2
      exact ⟨by simp, below_drewN (by go_grown) _⟩
    · obtain ⟨v1, v2⟩ := inB_iff.1 h1
      go_enter Try.func14, Try.ntmps14
      go_wp2_with (first | (go_at_call 48; refine (l00In_any _ _ _ _).mono ?_; rintro e w' ⟨rfl, rfl⟩) | (go_at_call 49; refine (l19Walk_any _ _ l v _ l1 l2 v1 v2 (by simp)).mono ?_; rintro e w' ⟨rfl, rfl⟩) | (go_at_call 47; refine (l03Ok_any _ _ s f t l c r k _ hs (by simp) (by simp) (by simp) (by simp) (by simp) (by simp) (by simp)).mono ?_; rintro e w' ⟨rfl, _, rfl⟩))
      go_ret2
      exact ⟨by simp, below_drewN (by go_grown) _⟩
theorem fnExactWalkTime_walk (s : ByteArray) (hs : s.size ≤ maxLen) (f : Int) (_ : -9223372036854775808 ≤ f ∧ f ≤ 9223372036854775807) (t : Int) (_ : -9223372036854775808 ≤ t ∧ t ≤ 9223372036854775807) (l : Int) (_ : -9223372036854775808 ≤ l ∧ l ≤ 9223372036854775807) (c : Int) (_ : -9223372036854775808 ≤ c ∧ c ≤ 9223372036854775807) (r : Int) (_ : -9223372036854775808 ≤ r ∧ r ≤ 9223372036854775807) (k : Int) (_ : -9223372036854775808 ≤ k ∧ k ≤ 9223372036854775807) (a0 : Int) (_ : -9223372036854775808 ≤ a0 ∧ a0 ≤ 9223372036854775807) (w : World) :
    Calls Try.prog 3 #[.agg #[.string s, .int .i64 f, .int .i64 t, .int .i64 l, .int .i64 c, .int .i64 r, .int .i64 k], .int .i64 a0] w fun e w' => e = .returned (.bool true) ∧ Below w.heap.size w w' := by
  by_cases h : (s.size : Int) ≤ 1048576
  · go_enter Try.func3, Try.ntmps3
    go_wp2_with fail
    refine (szAirway_yes _ _ _ _ _ _ _ _ _ (by omega) h).mono ?_
    rintro e w1 ⟨rfl, hb1⟩
    obtain ⟨hc1, hf1⟩ := bcell hb1
    have q1_0 : w.heap.size < w1.heap.size := by have := hb1.size; simp at this; omega
    have be1 : Below w.heap.size w w1 := ((Below.refl w.heap.size w).alloc (by simp) _).trans (hb1.mono (by simp))
    go_wp2_with fail
    refine (toAirway_any _ _ _ _ _ _ _ _).mono ?_
    rintro e w2 ⟨rfl, hb2⟩
    obtain ⟨hc2, hf2⟩ := bcell hb2
    have q2_0 : w.heap.size < w2.heap.size := by have := hb2.size; omega
    have be2 : Below w.heap.size w w2 := be1.trans (hb2.mono (by omega))
    go_wp2_with fail
    refine (WalkTime_s _ _ _ _ _ _ _ _ _ hs).mono ?_
    rintro e w3 ⟨rfl, hb3⟩
    obtain ⟨hc3, hf3⟩ := bcell hb3
    have q3_0 : w.heap.size < w3.heap.size := by have := hb3.size; omega
    have be3 : Below w.heap.size w w3 := be2.trans (hb3.mono (by omega))
    go_wp2_with fail
    refine (toAirway_any _ _ _ _ _ _ _ _).mono ?_
    rintro e w4 ⟨rfl, hb4⟩
    obtain ⟨hc4, hf4⟩ := bcell hb4
    have q4_0 : w.heap.size < w4.heap.size := by have := hb4.size; omega
    have be4 : Below w.heap.size w w4 := be3.trans (hb4.mono (by omega))
    go_wp2_with fail
    refine (WalkTime_i _ _ _ _ _ _ _ _ _ hs).mono ?_
    rintro e w5 ⟨rfl, hb5⟩
    obtain ⟨hc5, hf5⟩ := bcell hb5
    have q5_0 : w.heap.size < w5.heap.size := by have := hb5.size; omega
    have be5 : Below w.heap.size w w5 := be4.trans (hb5.mono (by omega))
    have hbe := be5
    go_wp2_with fail
    go_ret
    exact ⟨rfl, hbe⟩
  · go_enter Try.func3, Try.ntmps3
    go_wp2_with fail
    refine (szAirway_no _ _ _ _ _ _ _ _ _ (by omega) (by omega) hs (by omega)).mono ?_
    rintro e w1 ⟨rfl, hb1⟩
    obtain ⟨hc1, hf1⟩ := bcell hb1
    have q1_0 : w.heap.size < w1.heap.size := by have := hb1.size; simp at this; omega
    have be1 : Below w.heap.size w w1 := ((Below.refl w.heap.size w).alloc (by simp) _).trans (hb1.mono (by simp))
    have hbe := be1
    go_wp2_with fail
    go_ret
    exact ⟨rfl, hbe⟩
end Go.Proofs.Ytmfbdngibbkciaa
