/- Proved here: the parts Airway, Airs, Frame5, Clone, Nest, Frame4 of the row's proof, joined by a program. Conditions: as each part says. -/
import Derived.Test.YtejkoicgbgoiaaaGreatFl1
import Derived.Handy
import Derived.Lib.Hide
import Derived.IntWalk
import Derived.BigQuiet
import Derived.Deep.Slices
import Derived.Deep.Fields
import Derived.ChangeSame
import Derived.Lib.SliceRun
import Derived.Deep.Matrix
/- Airways: when one is valid, by the program and by the reference; copies and sizes; how long a walk along one takes; and the walk of the law. Conditions: the facts on memory and on lengths that each theorem names. -/
namespace Go.Proofs.YtejkoicgbgoiaaaGreat
open Go.RowKit
open Pl
/-- A valid airway. -/
noncomputable def airwayB (s : ByteArray) (f t l c r k : Int) : Bool := nameB s && (inB f 0 15 && (inB t 0 15 && (!(f == t) && (inB l 1 10000 && (inB c 50 5000 && (inB r 1 1000 && inB k 0 1000))))))
theorem airwayB_bd {s : ByteArray} {f t l c r k : Int} (h : airwayB s f t l c r k = true) : (0 ≤ f ∧ f ≤ 15) ∧ (0 ≤ t ∧ t ≤ 15) ∧ f ≠ t ∧ (1 ≤ l ∧ l ≤ 10000) ∧ (50 ≤ c ∧ c ≤ 5000) ∧ (1 ≤ r ∧ r ≤ 1000) ∧ (0 ≤ k ∧ k ≤ 1000) := by
  unfold airwayB at h
  simp only [Bool.and_eq_true, Bool.not_eq_true', beq_eq_false_iff_ne] at h
  obtain ⟨_, h1, h2, h3, h4, h5, h6, h7⟩ := h
  exact ⟨inB_iff.1 h1, inB_iff.1 h2, h3, inB_iff.1 h4, inB_iff.1 h5, inB_iff.1 h6, inB_iff.1 h7⟩
theorem ValidAirway_i (s : ByteArray) (f t l c r k : Int) (w : World) (hs : s.size ≤ maxLen) :
    Calls Tryz.prog 71 #[.agg #[.string s, .int .i64 f, .int .i64 t, .int .i64 l, .int .i64 c, .int .i64 r, .int .i64 k]] w fun e w' => e = .returned (.bool (airwayB s f t l c r k)) ∧ Below w.heap.size w w' := by
  unfold airwayB
  cases h0 : nameB s
  · go_enter Tryz.func71, Tryz.ntmps71
    go_wp2_with (first | (go_at_call 43; refine (within_any _ _ _ _).mono ?_; rintro e w' ⟨rfl, rfl⟩) | (go_at_call 104; refine (junctionOk_any _ _).mono ?_; rintro e w' ⟨rfl, rfl⟩) | (go_at_call 103; refine (IsName_any _ _ hs).mono ?_; rintro e w' ⟨rfl, rfl⟩))
    go_ret
    exact ⟨rfl, by go_grown⟩
  · cases h1 : inB f 0 15
    · go_enter Tryz.func71, Tryz.ntmps71
      go_wp2_with (first | (go_at_call 43; refine (within_any _ _ _ _).mono ?_; rintro e w' ⟨rfl, rfl⟩) | (go_at_call 104; refine (junctionOk_any _ _).mono ?_; rintro e w' ⟨rfl, rfl⟩) | (go_at_call 103; refine (IsName_any _ _ hs).mono ?_; rintro e w' ⟨rfl, rfl⟩))
      go_ret
      exact ⟨rfl, by go_grown⟩
    · obtain ⟨h1a, h1b⟩ := inB_iff.1 h1
      cases h2 : inB t 0 15
      · go_enter Tryz.func71, Tryz.ntmps71
        go_wp2_with (first | (go_at_call 43; refine (within_any _ _ _ _).mono ?_; rintro e w' ⟨rfl, rfl⟩) | (go_at_call 104; refine (junctionOk_any _ _).mono ?_; rintro e w' ⟨rfl, rfl⟩) | (go_at_call 103; refine (IsName_any _ _ hs).mono ?_; rintro e w' ⟨rfl, rfl⟩))
        go_ret
        exact ⟨rfl, by go_grown⟩
      · obtain ⟨h2a, h2b⟩ := inB_iff.1 h2
        by_cases hft : f = t
        · have e3 : (f == t) = true := by simp [hft]
          have e4 : (f != t) = false := by simp [hft]
          rw [e3]
          have E := Lib.hid e4
          clear hft e3
          go_enter Tryz.func71, Tryz.ntmps71
          go_wp2_with (first | (go_at_call 43; refine (within_any _ _ _ _).mono ?_; rintro e w' ⟨rfl, rfl⟩) | (go_at_call 104; refine (junctionOk_any _ _).mono ?_; rintro e w' ⟨rfl, rfl⟩) | (go_at_call 103; refine (IsName_any _ _ hs).mono ?_; rintro e w' ⟨rfl, rfl⟩))
          go_ret
          exact ⟨rfl, by go_grown⟩
        · have e3 : (f == t) = false := by simp [hft]
          have e4 : (f != t) = true := by simp [hft]
          rw [e3]
          clear hft e3
          cases h4 : inB l 1 10000
          · go_enter Tryz.func71, Tryz.ntmps71
            go_wp2_with (first | (go_at_call 43; refine (within_any _ _ _ _).mono ?_; rintro e w' ⟨rfl, rfl⟩) | (go_at_call 104; refine (junctionOk_any _ _).mono ?_; rintro e w' ⟨rfl, rfl⟩) | (go_at_call 103; refine (IsName_any _ _ hs).mono ?_; rintro e w' ⟨rfl, rfl⟩))
            go_ret
            exact ⟨rfl, by go_grown⟩
          · cases h5 : inB c 50 5000
            · go_enter Tryz.func71, Tryz.ntmps71
              go_wp2_with (first | (go_at_call 43; refine (within_any _ _ _ _).mono ?_; rintro e w' ⟨rfl, rfl⟩) | (go_at_call 104; refine (junctionOk_any _ _).mono ?_; rintro e w' ⟨rfl, rfl⟩) | (go_at_call 103; refine (IsName_any _ _ hs).mono ?_; rintro e w' ⟨rfl, rfl⟩))
              go_ret
              exact ⟨rfl, by go_grown⟩
            · cases h6 : inB r 1 1000
              · go_enter Tryz.func71, Tryz.ntmps71
                go_wp2_with (first | (go_at_call 43; refine (within_any _ _ _ _).mono ?_; rintro e w' ⟨rfl, rfl⟩) | (go_at_call 104; refine (junctionOk_any _ _).mono ?_; rintro e w' ⟨rfl, rfl⟩) | (go_at_call 103; refine (IsName_any _ _ hs).mono ?_; rintro e w' ⟨rfl, rfl⟩))
                go_ret
                exact ⟨rfl, by go_grown⟩
              · go_enter Tryz.func71, Tryz.ntmps71
                go_wp2_with (first | (go_at_call 43; refine (within_any _ _ _ _).mono ?_; rintro e w' ⟨rfl, rfl⟩) | (go_at_call 104; refine (junctionOk_any _ _).mono ?_; rintro e w' ⟨rfl, rfl⟩) | (go_at_call 103; refine (IsName_any _ _ hs).mono ?_; rintro e w' ⟨rfl, rfl⟩))
                go_ret
                exact ⟨rfl, by go_grown⟩
set_option maxRecDepth 100000 in
set_option maxHeartbeats 800000 in
theorem l03Ok_a (b o : Nat) (s : ByteArray) (f t l c r k : Int) (w : World) (hs : s.size ≤ maxLen) (c0 : w.cell? ⟨b, o, none⟩ = some (.string s)) (_ : w.cell? ⟨b, o + 1, none⟩ = some (.int .i64 f)) (_ : w.cell? ⟨b, o + 2, none⟩ = some (.int .i64 t)) (_ : w.cell? ⟨b, o + 3, none⟩ = some (.int .i64 l)) (_ : w.cell? ⟨b, o + 4, none⟩ = some (.int .i64 c)) (_ : w.cell? ⟨b, o + 5, none⟩ = some (.int .i64 r)) (_ : w.cell? ⟨b, o + 6, none⟩ = some (.int .i64 k)) (h0 : nameB s = false) :
    Calls Tryz.prog 134 #[.pointer (some ⟨b, o, none⟩)] w fun e w' => e = .returned (.bool false) ∧ ∃ n, w.drewN n = w' := by
  have HQ0 := Lib.hid (fun W => eqb (l01Name_any s W hs) h0)
  clear h0
  clear hs
  go_enter Tryz.func134, Tryz.ntmps134
  go_wp2_with fail
  go_big_quiet (first | (go_at_call 139; first | (with_reducible exact quiet_s (HQ0.out _)) | (with_reducible exact quiet_s2 (HQ0.out _))))
  go_wp2
  go_ret
  exact ⟨rfl, _, rfl⟩
set_option maxRecDepth 100000 in
set_option maxHeartbeats 800000 in
theorem l03Ok_b (b o : Nat) (s : ByteArray) (f t l c r k : Int) (w : World) (hs : s.size ≤ maxLen) (c0 : w.cell? ⟨b, o, none⟩ = some (.string s)) (c1 : w.cell? ⟨b, o + 1, none⟩ = some (.int .i64 f)) (_ : w.cell? ⟨b, o + 2, none⟩ = some (.int .i64 t)) (_ : w.cell? ⟨b, o + 3, none⟩ = some (.int .i64 l)) (_ : w.cell? ⟨b, o + 4, none⟩ = some (.int .i64 c)) (_ : w.cell? ⟨b, o + 5, none⟩ = some (.int .i64 r)) (_ : w.cell? ⟨b, o + 6, none⟩ = some (.int .i64 k)) (h0 : nameB s = true) (h1 : inB f 0 15 = false) :
    Calls Tryz.prog 134 #[.pointer (some ⟨b, o, none⟩)] w fun e w' => e = .returned (.bool false) ∧ ∃ n, w.drewN n = w' := by
  have HQ0 := Lib.hid (fun W => eqb (l01Name_any s W hs) h0)
  clear h0
  have HQ1 := Lib.hid (fun W => eqb (l00In_any f 0 15 W) h1)
  clear h1
  clear hs
  go_enter Tryz.func134, Tryz.ntmps134
  go_wp2_with fail
  go_big_quiet (first | (go_at_call 139; first | (with_reducible exact quiet_s (HQ0.out _)) | (with_reducible exact quiet_s2 (HQ0.out _))) | (go_at_call 67; first | (with_reducible exact quiet_s (HQ1.out _)) | (with_reducible exact quiet_s2 (HQ1.out _))))
  go_wp2
  go_ret
  exact ⟨rfl, _, rfl⟩
set_option maxRecDepth 100000 in
set_option maxHeartbeats 800000 in
theorem l03Ok_c (b o : Nat) (s : ByteArray) (f t l c r k : Int) (w : World) (hs : s.size ≤ maxLen) (c0 : w.cell? ⟨b, o, none⟩ = some (.string s)) (c1 : w.cell? ⟨b, o + 1, none⟩ = some (.int .i64 f)) (c2 : w.cell? ⟨b, o + 2, none⟩ = some (.int .i64 t)) (_ : w.cell? ⟨b, o + 3, none⟩ = some (.int .i64 l)) (_ : w.cell? ⟨b, o + 4, none⟩ = some (.int .i64 c)) (_ : w.cell? ⟨b, o + 5, none⟩ = some (.int .i64 r)) (_ : w.cell? ⟨b, o + 6, none⟩ = some (.int .i64 k)) (h0 : nameB s = true) (h1 : inB f 0 15 = true) (h2 : inB t 0 15 = false) :
    Calls Tryz.prog 134 #[.pointer (some ⟨b, o, none⟩)] w fun e w' => e = .returned (.bool false) ∧ ∃ n, w.drewN n = w' := by
  have HQ0 := Lib.hid (fun W => eqb (l01Name_any s W hs) h0)
  clear h0
  have HQ1 := Lib.hid (fun W => eqb (l00In_any f 0 15 W) h1)
  clear h1
  have HQ2 := Lib.hid (fun W => eqb (l00In_any t 0 15 W) h2)
  clear h2
  clear hs
  go_enter Tryz.func134, Tryz.ntmps134
  go_wp2_with fail
  go_big_quiet (first | (go_at_call 139; first | (with_reducible exact quiet_s (HQ0.out _)) | (with_reducible exact quiet_s2 (HQ0.out _))) | (go_at_call 67; first | (with_reducible exact quiet_s (HQ1.out _)) | (with_reducible exact quiet_s2 (HQ1.out _))) | (go_at_call 67; first | (with_reducible exact quiet_s (HQ2.out _)) | (with_reducible exact quiet_s2 (HQ2.out _))))
  go_wp2
  go_ret
  exact ⟨rfl, _, rfl⟩
set_option maxRecDepth 100000 in
set_option maxHeartbeats 800000 in
theorem l03Ok_d (b o : Nat) (s : ByteArray) (f t l c r k : Int) (w : World) (hs : s.size ≤ maxLen) (c0 : w.cell? ⟨b, o, none⟩ = some (.string s)) (c1 : w.cell? ⟨b, o + 1, none⟩ = some (.int .i64 f)) (c2 : w.cell? ⟨b, o + 2, none⟩ = some (.int .i64 t)) (_ : w.cell? ⟨b, o + 3, none⟩ = some (.int .i64 l)) (_ : w.cell? ⟨b, o + 4, none⟩ = some (.int .i64 c)) (_ : w.cell? ⟨b, o + 5, none⟩ = some (.int .i64 r)) (_ : w.cell? ⟨b, o + 6, none⟩ = some (.int .i64 k)) (h0 : nameB s = true) (h1 : inB f 0 15 = true) (h2 : inB t 0 15 = true) (h3 : (f == t) = true) :
    Calls Tryz.prog 134 #[.pointer (some ⟨b, o, none⟩)] w fun e w' => e = .returned (.bool false) ∧ ∃ n, w.drewN n = w' := by
  have HQ0 := Lib.hid (fun W => eqb (l01Name_any s W hs) h0)
  clear h0
  have HQ1 := Lib.hid (fun W => eqb (l00In_any f 0 15 W) h1)
  clear h1
  have HQ2 := Lib.hid (fun W => eqb (l00In_any t 0 15 W) h2)
  clear h2
  clear hs
  go_enter Tryz.func134, Tryz.ntmps134
  go_wp2_with fail
  go_big_quiet (first | (go_at_call 139; first | (with_reducible exact quiet_s (HQ0.out _)) | (with_reducible exact quiet_s2 (HQ0.out _))) | (go_at_call 67; first | (with_reducible exact quiet_s (HQ1.out _)) | (with_reducible exact quiet_s2 (HQ1.out _))) | (go_at_call 67; first | (with_reducible exact quiet_s (HQ2.out _)) | (with_reducible exact quiet_s2 (HQ2.out _))))
  go_wp2
  go_ret
  exact ⟨rfl, _, rfl⟩
set_option maxRecDepth 100000 in
set_option maxHeartbeats 800000 in
theorem l03Ok_e (b o : Nat) (s : ByteArray) (f t l c r k : Int) (w : World) (hs : s.size ≤ maxLen) (c0 : w.cell? ⟨b, o, none⟩ = some (.string s)) (c1 : w.cell? ⟨b, o + 1, none⟩ = some (.int .i64 f)) (c2 : w.cell? ⟨b, o + 2, none⟩ = some (.int .i64 t)) (c3 : w.cell? ⟨b, o + 3, none⟩ = some (.int .i64 l)) (c4 : w.cell? ⟨b, o + 4, none⟩ = some (.int .i64 c)) (c5 : w.cell? ⟨b, o + 5, none⟩ = some (.int .i64 r)) (c6 : w.cell? ⟨b, o + 6, none⟩ = some (.int .i64 k)) (h0 : nameB s = true) (h1 : inB f 0 15 = true) (h2 : inB t 0 15 = true) (h3 : (f == t) = false) :
    Calls Tryz.prog 134 #[.pointer (some ⟨b, o, none⟩)] w fun e w' => e = .returned (.bool (inB l 1 10000 && (inB c 50 5000 && (inB r 1 1000 && inB k 0 1000)))) ∧ ∃ n, w.drewN n = w' := by
  have HQ0 := Lib.hid (fun W => eqb (l01Name_any s W hs) h0)
  clear h0
  have HQ1 := Lib.hid (fun W => eqb (l00In_any f 0 15 W) h1)
  clear h1
  have HQ2 := Lib.hid (fun W => eqb (l00In_any t 0 15 W) h2)
  clear h2
  clear hs
  go_enter Tryz.func134, Tryz.ntmps134
  go_wp2_with fail
  go_big_quiet (first | (go_at_call 139; first | (with_reducible exact quiet_s (HQ0.out _)) | (with_reducible exact quiet_s2 (HQ0.out _))) | (go_at_call 67; first | (with_reducible exact quiet_s (HQ1.out _)) | (with_reducible exact quiet_s2 (HQ1.out _))) | (go_at_call 67; first | (with_reducible exact quiet_s (HQ2.out _)) | (with_reducible exact quiet_s2 (HQ2.out _))))
  cases h4 : inB l 1 10000
  · go_wp2_with (go_at_call 67; refine (l00In_any _ _ _ _).mono ?_; rintro e w' ⟨rfl, rfl⟩)
    go_ret
    exact ⟨by simp [h4], _, rfl⟩
  · cases h5 : inB c 50 5000
    · go_wp2_with (go_at_call 67; refine (l00In_any _ _ _ _).mono ?_; rintro e w' ⟨rfl, rfl⟩)
      go_ret
      exact ⟨by simp [h4, h5], _, rfl⟩
    · cases h6 : inB r 1 1000
      · go_wp2_with (go_at_call 67; refine (l00In_any _ _ _ _).mono ?_; rintro e w' ⟨rfl, rfl⟩)
        go_ret
        exact ⟨by simp [h4, h5, h6], _, rfl⟩
      · go_wp2_with (go_at_call 67; refine (l00In_any _ _ _ _).mono ?_; rintro e w' ⟨rfl, rfl⟩)
        go_ret
        exact ⟨by simp [h4, h5, h6], _, rfl⟩
theorem l03Ok_any (b o : Nat) (s : ByteArray) (f t l c r k : Int) (w : World) (hs : s.size ≤ maxLen) (c0 : w.cell? ⟨b, o, none⟩ = some (.string s)) (c1 : w.cell? ⟨b, o + 1, none⟩ = some (.int .i64 f)) (c2 : w.cell? ⟨b, o + 2, none⟩ = some (.int .i64 t)) (c3 : w.cell? ⟨b, o + 3, none⟩ = some (.int .i64 l)) (c4 : w.cell? ⟨b, o + 4, none⟩ = some (.int .i64 c)) (c5 : w.cell? ⟨b, o + 5, none⟩ = some (.int .i64 r)) (c6 : w.cell? ⟨b, o + 6, none⟩ = some (.int .i64 k)) :
    Calls Tryz.prog 134 #[.pointer (some ⟨b, o, none⟩)] w fun e w' => e = .returned (.bool (airwayB s f t l c r k)) ∧ ∃ n, w.drewN n = w' := by
  unfold airwayB
  cases h0 : nameB s
  · exact l03Ok_a b o s f t l c r k w hs c0 c1 c2 c3 c4 c5 c6 h0
  · cases h1 : inB f 0 15
    · exact l03Ok_b b o s f t l c r k w hs c0 c1 c2 c3 c4 c5 c6 h0 h1
    · cases h2 : inB t 0 15
      · exact l03Ok_c b o s f t l c r k w hs c0 c1 c2 c3 c4 c5 c6 h0 h1 h2
      · cases h3 : f == t
        · exact l03Ok_e b o s f t l c r k w hs c0 c1 c2 c3 c4 c5 c6 h0 h1 h2 h3
        · exact l03Ok_d b o s f t l c r k w hs c0 c1 c2 c3 c4 c5 c6 h0 h1 h2 h3
theorem toAirway_any (s : ByteArray) (f t l c r k : Int) (w : World) :
    Calls Tryz.prog 69 #[.agg #[.string s, .int .i64 f, .int .i64 t, .int .i64 l, .int .i64 c, .int .i64 r, .int .i64 k]] w fun e w' => e = .returned (.agg #[.string s, .int .i64 f, .int .i64 t, .int .i64 l, .int .i64 c, .int .i64 r, .int .i64 k]) ∧ Below w.heap.size w w' := by
  go_enter Tryz.func69, Tryz.ntmps69
  go_wp2
  go_returns
  exact ⟨rfl, by go_grown⟩
theorem szAirway_yes (s : ByteArray) (f t l c r k : Int) (left : Int) (w : World) (h0 : left ≤ 1048576) (h : s.size ≤ left) :
    Calls Tryz.prog 65 #[.agg #[.string s, .int .i64 f, .int .i64 t, .int .i64 l, .int .i64 c, .int .i64 r, .int .i64 k], .int .i64 left] w fun e w' => e = .returned (.int .i64 (left - s.size)) ∧ Below w.heap.size w w' := by
  go_enter Tryz.func65, Tryz.ntmps65
  go_wp2
  go_ret
  exact ⟨rfl, by go_grown⟩
theorem szAirway_no (s : ByteArray) (f t l c r k : Int) (left : Int) (w : World) (h0 : 0 ≤ left) (h1 : left ≤ 1048576) (hs : s.size ≤ maxLen) (h : left < s.size) :
    Calls Tryz.prog 65 #[.agg #[.string s, .int .i64 f, .int .i64 t, .int .i64 l, .int .i64 c, .int .i64 r, .int .i64 k], .int .i64 left] w fun e w' => e = .returned (.int .i64 (-1)) ∧ Below w.heap.size w w' := by
  unfold maxLen at hs
  go_enter Tryz.func65, Tryz.ntmps65
  go_wp2
  go_ret
  exact ⟨rfl, by go_grown⟩
end Go.Proofs.YtejkoicgbgoiaaaGreat

/- Lists of airways: what one is in memory; the laws' own functions on them: copies, comparisons, sizes. Conditions: the lengths that each theorem names. -/
namespace Go.Proofs.YtejkoicgbgoiaaaGreat
open Go.RowKit
open Pl
/-- An airway: its name, from, to, length, section, friction, shock. -/
structure Aw where
  id : ByteArray
  f : Int
  t : Int
  l : Int
  c : Int
  r : Int
  k : Int
def encA (a : Aw) : List Value := [.string a.id, .int .i64 a.f, .int .i64 a.t, .int .i64 a.l, .int .i64 a.c, .int .i64 a.r, .int .i64 a.k]
theorem encA_len (a : Aw) : (encA a).length = 7 := rfl
def aNone : Aw := ⟨ByteArray.empty, 0, 0, 0, 0, 0, 0⟩
/-- The value of an airway. -/
def valA (a : Aw) : Value := .agg #[.string a.id, .int .i64 a.f, .int .i64 a.t, .int .i64 a.l, .int .i64 a.c, .int .i64 a.r, .int .i64 a.k]
theorem Recs.cells7 {B : Nat} {w : World} {A : Option Addr} {xs : List Aw} (h : Recs encA 7 B w A xs) {j : Nat} (hj : j < xs.length) {s : ByteArray} {f t l c r k : Int} (e : xs.getD j aNone = ⟨s, f, t, l, c, r, k⟩) : ∃ b o, A = some ⟨b, o, none⟩ ∧ b < B ∧
    w.cell? ⟨b, o + j * 7, none⟩ = some (.string s) ∧ w.cell? ⟨b, o + j * 7 + 1, none⟩ = some (.int .i64 f) ∧ w.cell? ⟨b, o + j * 7 + 2, none⟩ = some (.int .i64 t) ∧ w.cell? ⟨b, o + j * 7 + 3, none⟩ = some (.int .i64 l) ∧ w.cell? ⟨b, o + j * 7 + 4, none⟩ = some (.int .i64 c) ∧ w.cell? ⟨b, o + j * 7 + 5, none⟩ = some (.int .i64 r) ∧ w.cell? ⟨b, o + j * 7 + 6, none⟩ = some (.int .i64 k) := by
  obtain ⟨b, o, ea, hb, hc⟩ := h.at_ hj
  have e' : xs[j] = ⟨s, f, t, l, c, r, k⟩ := by rw [← e]; simp [List.getD, hj]
  rw [e'] at hc
  exact ⟨b, o, ea, hb, hc 0 _ rfl, hc 1 _ rfl, hc 2 _ rfl, hc 3 _ rfl, hc 4 _ rfl, hc 5 _ rfl, hc 6 _ rfl⟩
theorem flatA_set (a : Aw) : ∀ (zs : List Aw) (j : Nat), j < zs.length →
    ((((((((zs.flatMap encA).set (j * 7) (.string a.id)).set (j * 7 + 1) (.int .i64 a.f)).set (j * 7 + 2) (.int .i64 a.t)).set (j * 7 + 3) (.int .i64 a.l)).set (j * 7 + 4) (.int .i64 a.c)).set (j * 7 + 5) (.int .i64 a.r)).set (j * 7 + 6) (.int .i64 a.k)) = (zs.set j a).flatMap encA
  | z :: zs, 0, _ => by simp [encA]
  | z :: zs, j + 1, h => by
    have ih := flatA_set a zs j (by simpa using h)
    rw [show (j + 1) * 7 = j * 7 + 7 by omega]
    simp only [List.flatMap_cons, List.set_cons_succ, encA, List.cons_append, List.nil_append]
    have e := congrArg (fun l => Value.string z.id :: Value.int .i64 z.f :: Value.int .i64 z.t :: Value.int .i64 z.l :: Value.int .i64 z.c :: Value.int .i64 z.r :: Value.int .i64 z.k :: l) ih
    exact e
theorem madeA (n : Nat) : (madeCells #[.string ByteArray.empty, .int .i64 0, .int .i64 0, .int .i64 0, .int .i64 0, .int .i64 0, .int .i64 0] (n * 7)).toList = (List.replicate n aNone).flatMap encA := by
  unfold madeCells
  rw [Array.toList_map, Array.toList_range]
  induction n with
  | zero => rfl
  | succ n ih =>
    rw [show (n + 1) * 7 = n * 7 + 1 + 1 + 1 + 1 + 1 + 1 + 1 by omega, List.range_succ, List.range_succ, List.range_succ, List.range_succ, List.range_succ, List.range_succ, List.range_succ, List.replicate_succ', List.flatMap_append]
    simp only [List.map_append, List.append_assoc]
    rw [ih]
    congr 1
    simp [encA, aNone, Nat.add_mod]
theorem flatA_cell {zs : List Aw} {k j : Nat} (hk : k < zs.length) (hj : j < 7) : ∃ y, (zs.flatMap encA)[k * 7 + j]? = some y := by
  rw [flat_get encA_len zs k j hk hj]
  exact ⟨_, List.getElem?_eq_getElem (by rw [encA_len]; exact hj)⟩
theorem infoA : (Tryz.prog.info? 99).map (fun i => (i.zero, i.size, i.bytes)) = some (some (.agg #[.string ByteArray.empty, .int .i64 0, .int .i64 0, .int .i64 0, .int .i64 0, .int .i64 0, .int .i64 0]), 7, 64) := by kernel_rfl
set_option maxRecDepth 100000 in
set_option maxHeartbeats 800000 in
theorem toAirwayS_any (A : Option Addr) (c : Nat) (xs : List Aw) (B : Nat) (w : World) (hn : xs.length ≤ 1048576) (hI : Recs encA 7 B w A xs) (hB : B ≤ w.heap.size) :
    Calls Tryz.prog 37 #[.slice A xs.length c] w fun e w' => e = .returned (.slice (some ⟨w.heap.size, 0, none⟩) xs.length xs.length) ∧ OwnR 99 encA 7 w.heap.size w' (.slice (some ⟨w.heap.size, 0, none⟩) xs.length xs.length) xs ∧ Below w.heap.size w w' := by
  obtain ⟨i0, hi, hz0, hz1, hz2⟩ := info_parts infoA
  have hbb : i0.bytes * xs.length ≤ 281474976710656 := by rw [hz2]; omega
  have hmx : xs.length ≤ maxLen := le_max (by omega)
  have HD := Lib.hid (fun (s : ByteArray) (f t l c r k : Int) W => toAirway_any s f t l c r k W)
  go_enter Tryz.func37, Tryz.ntmps37
  go_wp2_with (at_make; refine wpList_make_full _ rfl (.tmp 6) (.tmp 6) 31 rfl w.heap.size 99 i0 (.agg #[.string ByteArray.empty, .int .i64 0, .int .i64 0, .int .i64 0, .int .i64 0, .int .i64 0, .int .i64 0]) 7 Tryz.underlying31 hi hz0 hz1 .i64 .i64 (xs.length : Int) (xs.length : Int) xs.length rfl rfl rfl rfl hbb hmx (Nat.le_refl _) ?_; intro w1 hown hgr)
  have hbe : Below w.heap.size w w1 := (Below.refl _ _).grown hgr (Nat.le_refl _) (fun k hk => by cases hk)
  have HO : ∃ zs : List Aw, zs.length = xs.length ∧ zs.take 0 = xs.take 0 ∧ w1.ownsRow w.heap.size 99 7 (.slice (some ⟨w.heap.size, 0, none⟩) xs.length xs.length) xs.length (zs.flatMap encA) := by
    refine ⟨List.replicate xs.length aNone, by simp, by simp, ?_⟩
    rw [← madeA]
    exact hown
  clear hown hgr hbb hmx hi hz0 hz1 hz2
  have HH := Lib.hid HO
  clear HO
  go_wp2
  go_loopw [4] (fun i wr => ∃ k : Nat, k ≤ xs.length ∧ i = .int .i64 k ∧ Below w.heap.size w wr ∧ w.heap.size < wr.heap.size ∧ ∃ zs : List Aw, zs.length = xs.length ∧ zs.take k = xs.take k ∧ wr.ownsRow w.heap.size 99 7 (.slice (some ⟨w.heap.size, 0, none⟩) xs.length xs.length) xs.length (zs.flatMap encA)) (fun i _ => xs.length - (intOf i).toNat)
  case atStart =>
    obtain ⟨zs, h1, h2, h3⟩ := HH.out
    exact ⟨0, Nat.zero_le _, rfl, hbe, (World.ownsRow.lt h3 _ rfl).2, zs, h1, h2, h3⟩
  case round =>
    obtain ⟨k, hk, rfl, hb, hlt2, zs, hz, ht, ho⟩ := hrel
    by_cases hlt : k < xs.length
    · obtain ⟨⟨xa, xf, xt, xl, xc, xr, xk⟩, hx⟩ : ∃ x, xs.getD k aNone = x := ⟨_, rfl⟩
      obtain ⟨b, o, rfl, hab, c0, c1, c2, c3, c4, c5, c6⟩ := ((hI.more hB).below hb).cells7 hlt hx
      have HO := Lib.hid ho
      have HZ := Lib.hid hz
      have HT := Lib.hid ht
      have HX : Hid (xs[k] = ⟨xa, xf, xt, xl, xc, xr, xk⟩) := Lib.hid (by rw [← hx]; simp [List.getD, hlt])
      clear ho hz ht hx
      have i0 : (0 : Int) ≤ (k : Int) := by omega
      have i1 : (k : Int) < xs.length := by omega
      go_wp2_with fail
      refine (HD.out _ _ _ _ _ _ _ _).mono ?_
      rintro e w2 ⟨rfl, hb2⟩
      have hO2 := (show OwnR 99 encA 7 w.heap.size wr (.slice (some ⟨w.heap.size, 0, none⟩) xs.length xs.length) zs by unfold OwnR; rw [HZ.out]; exact HO.out).later hb2
      unfold OwnR at hO2
      rw [HZ.out] at hO2
      have hkz : k < zs.length := by rw [HZ.out]; exact hlt
      obtain ⟨y0, e0⟩ := flatA_cell (j := 0) hkz (by omega)
      obtain ⟨y1, e1⟩ := flatA_cell (j := 1) hkz (by omega)
      obtain ⟨y2, e2⟩ := flatA_cell (j := 2) hkz (by omega)
      obtain ⟨y3, e3⟩ := flatA_cell (j := 3) hkz (by omega)
      obtain ⟨y4, e4⟩ := flatA_cell (j := 4) hkz (by omega)
      obtain ⟨y5, e5⟩ := flatA_cell (j := 5) hkz (by omega)
      obtain ⟨y6, e6⟩ := flatA_cell (j := 6) hkz (by omega)
      have d0 := (World.ownsRow.cellAt hO2 (k * 7) (by omega)).trans e0
      have d1 := (World.ownsRow.cellAt hO2 (k * 7 + 1) (by omega)).trans e1
      have d2 := (World.ownsRow.cellAt hO2 (k * 7 + 2) (by omega)).trans e2
      have d3 := (World.ownsRow.cellAt hO2 (k * 7 + 3) (by omega)).trans e3
      have d4 := (World.ownsRow.cellAt hO2 (k * 7 + 4) (by omega)).trans e4
      have d5 := (World.ownsRow.cellAt hO2 (k * 7 + 5) (by omega)).trans e5
      have d6 := (World.ownsRow.cellAt hO2 (k * 7 + 6) (by omega)).trans e6
      have f0 := World.ownsRow.frozenAt hO2 (k * 7)
      have f1 := World.ownsRow.frozenAt hO2 (k * 7 + 1)
      have f2 := World.ownsRow.frozenAt hO2 (k * 7 + 2)
      have f3 := World.ownsRow.frozenAt hO2 (k * 7 + 3)
      have f4 := World.ownsRow.frozenAt hO2 (k * 7 + 4)
      have f5 := World.ownsRow.frozenAt hO2 (k * 7 + 5)
      have f6 := World.ownsRow.frozenAt hO2 (k * 7 + 6)
      have HO2 := Lib.hid hO2
      have hbb := hb.trans (hb2.mono hb.size)
      have hz2 : w.heap.size < w2.heap.size := by have := hb2.size; omega
      clear e0 e1 e2 e3 e4 e5 e6 hO2 hkz c0 c1 c2 c3 c4 c5 c6
      go_wp2_with fail
      go_roundw
      case rel =>
        obtain ⟨r0, _⟩ := World.ownsRow.stored HO2.out (k * 7) (.string xa)
        obtain ⟨r1, _⟩ := World.ownsRow.stored r0 (k * 7 + 1) (.int .i64 xf)
        obtain ⟨r2, _⟩ := World.ownsRow.stored r1 (k * 7 + 2) (.int .i64 xt)
        obtain ⟨r3, _⟩ := World.ownsRow.stored r2 (k * 7 + 3) (.int .i64 xl)
        obtain ⟨r4, _⟩ := World.ownsRow.stored r3 (k * 7 + 4) (.int .i64 xc)
        obtain ⟨r5, _⟩ := World.ownsRow.stored r4 (k * 7 + 5) (.int .i64 xr)
        obtain ⟨r6, _⟩ := World.ownsRow.stored r5 (k * 7 + 6) (.int .i64 xk)
        rw [flatA_set ⟨xa, xf, xt, xl, xc, xr, xk⟩ zs k (by rw [HZ.out]; exact hlt)] at r6
        refine ⟨k + 1, by omega, by go_num, ((((((hbb.setCell (by simp) _).setCell (by simp) _).setCell (by simp) _).setCell (by simp) _).setCell (by simp) _).setCell (by simp) _).setCell (by simp) _, by simpa using hz2, zs.set k ⟨xa, xf, xt, xl, xc, xr, xk⟩, by rw [List.length_set]; exact HZ.out, ?_, r6⟩
        rw [← HX.out]
        exact take_set_succ' HZ.out hlt HT.out
      case measure => simp [intOf]; omega
    · obtain rfl : k = xs.length := by omega
      have HE := Lib.hid (take_all_eq' hz ht)
      have HO := Lib.hid ho
      clear ho hz ht
      go_wp2
      go_ret
      refine ⟨rfl, ?_, hb⟩
      have h := HO.out
      rw [HE.out] at h
      exact h
/-- How many letters the names of the first k airways hold. -/
def idLen (xs : List Aw) : Nat → Int | 0 => 0 | k + 1 => idLen xs k + (xs.getD k aNone).id.size
theorem idLen_nonneg (xs : List Aw) : ∀ k, 0 ≤ idLen xs k
  | 0 => by simp [idLen]
  | k + 1 => by have := idLen_nonneg xs k; unfold idLen; omega
theorem idLen_mono (xs : List Aw) : ∀ (d k : Nat), idLen xs k ≤ idLen xs (k + d)
  | 0, k => Int.le_refl _
  | d + 1, k => by have := idLen_mono xs d k; have e : idLen xs (k + (d + 1)) = idLen xs (k + d) + (xs.getD (k + d) aNone).id.size := rfl; omega
def szA (xs : List Aw) (left : Int) : Int := if (xs.length : Int) + idLen xs xs.length ≤ left then left - xs.length - idLen xs xs.length else -1
/-- All names are strings of a length that can be, all numbers fit. -/
def FitsA (xs : List Aw) : Prop := ∀ x ∈ xs, x.id.size ≤ maxLen ∧ (-9223372036854775808 ≤ x.f ∧ x.f ≤ 9223372036854775807) ∧ (-9223372036854775808 ≤ x.t ∧ x.t ≤ 9223372036854775807) ∧ (-9223372036854775808 ≤ x.l ∧ x.l ≤ 9223372036854775807) ∧ (-9223372036854775808 ≤ x.c ∧ x.c ≤ 9223372036854775807) ∧ (-9223372036854775808 ≤ x.r ∧ x.r ≤ 9223372036854775807) ∧ (-9223372036854775808 ≤ x.k ∧ x.k ≤ 9223372036854775807)
theorem FitsA.id {xs : List Aw} (h : FitsA xs) (k : Nat) : (xs.getD k aNone).id.size ≤ maxLen := by
  by_cases hk : k < xs.length
  · rw [show xs.getD k aNone = xs[k] by simp [List.getD, hk]]; exact (h _ (List.getElem_mem hk)).1
  · rw [show xs.getD k aNone = aNone by simp [List.getD, List.getElem?_eq_none (by omega : xs.length ≤ k)]]; exact Nat.zero_le _
set_option maxRecDepth 100000 in
theorem szAirwayS_any (A : Option Addr) (c : Nat) (xs : List Aw) (left : Int) (B : Nat) (w : World) (h1 : 0 ≤ left) (h0 : left ≤ 1048576) (hn : xs.length ≤ maxLen) (hF : FitsA xs) (hI : Recs encA 7 B w A xs) (hB : B ≤ w.heap.size) :
    Calls Tryz.prog 34 #[.slice A xs.length c, .int .i64 left] w fun e w' => e = .returned (.int .i64 (szA xs left)) ∧ Below w.heap.size w w' := by
  obtain ⟨R, hR⟩ : ∃ R, R = szA xs left := ⟨_, rfl⟩
  rw [← hR]
  have HR := Lib.hid hR
  clear hR
  have J := Lib.hid (hI.more hB)
  clear hI
  have HL := Lib.hid hF.id
  clear hF
  have HN := Lib.hid (idLen_nonneg xs)
  have hz := HN.out xs.length
  unfold maxLen at hn
  by_cases h2 : left < xs.length
  · have HF : Hid (szA xs left = -1) := Lib.hid (by unfold szA; rw [if_neg (by omega)])
    clear hz
    go_enter Tryz.func34, Tryz.ntmps34
    go_wp2
    go_ret
    exact ⟨ret_int (by rw [HR.out, HF.out]), Below.refl _ _⟩
  obtain ⟨m, m1, m2, m3⟩ := first_stop (fun k => decide ((xs.length : Int) + idLen xs (k + 1) ≤ left)) xs.length
  have M2 := Lib.hid m2
  have M3 := Lib.hid m3
  clear m2 m3 hz
  go_enter Tryz.func34, Tryz.ntmps34
  go_wp2
  go_loopw [1, 5] (fun s i wr => ∃ k : Nat, k ≤ m ∧ i = .int .i64 k ∧ s = .int .i64 (left - xs.length - idLen xs k) ∧ (xs.length : Int) + idLen xs k ≤ left ∧ Below w.heap.size w wr) (fun _ i _ => xs.length - (intOf i).toNat)
  case atStart => exact ⟨0, Nat.zero_le _, rfl, by simp [idLen], by simp [idLen]; omega, Below.refl _ _⟩
  case round =>
    obtain ⟨k, hk, rfl, rfl, hle, hb⟩ := hrel
    have hz := HN.out k
    by_cases hlt : k < xs.length
    · obtain ⟨⟨xa, xf, xt, xl, xc, xr, xk⟩, hx⟩ : ∃ x, xs.getD k aNone = x := ⟨_, rfl⟩
      obtain ⟨b, o, rfl, hab, c0, c1, c2, c3, c4, c5, c6⟩ := (J.out.below hb).cells7 hlt hx
      have hs : idLen xs (k + 1) = idLen xs k + xa.size := by rw [idLen, hx]
      have hlen : xa.size ≤ maxLen := by have := HL.out k; rw [hx] at this; exact this
      have i0 : (0 : Int) ≤ (k : Int) := by omega
      have i1 : (k : Int) < xs.length := by omega
      have HS := Lib.hid hs
      by_cases hkm : k < m
      · have hp := of_decide_eq_true (M2.out k hkm)
        rw [hs] at hp
        generalize idLen xs k = tl at *
        have HZ := Lib.hid (fun W => szAirway_yes xa xf xt xl xc xr xk (left - xs.length - tl) W (by omega) (by omega))
        clear hs hlen hx
        go_wp2_with (go_at_call 65; refine (HZ.out _).mono ?_; rintro e w' ⟨rfl, hb2⟩)
        go_roundw
        case rel => exact ⟨k + 1, by omega, by go_num, by rw [HS.out]; go_num, by rw [HS.out]; omega, hb.trans (hb2.mono hb.size)⟩
        case measure => simp [intOf]; omega
      · obtain rfl : m = k := by omega
        have hp := of_decide_eq_false (M3.out hlt)
        rw [hs] at hp
        have HF : Hid (szA xs left = -1) := Lib.hid (by
          unfold szA
          have h5 := idLen_mono xs (xs.length - (m + 1)) (m + 1)
          rw [show m + 1 + (xs.length - (m + 1)) = xs.length by omega] at h5
          rw [if_neg (by omega)])
        generalize idLen xs m = tl at *
        have HZ := Lib.hid (fun W => szAirway_no xa xf xt xl xc xr xk (left - xs.length - tl) W (by omega) (by omega) hlen (by omega))
        clear hs hlen hx
        go_wp2_with (go_at_call 65; refine (HZ.out _).mono ?_; rintro e w' ⟨rfl, hb2⟩)
        go_ret
        exact ⟨ret_int (by rw [HR.out, HF.out]), hb.trans (hb2.mono hb.size)⟩
    · obtain rfl : k = xs.length := by omega
      have HF : Hid (szA xs left = left - xs.length - idLen xs xs.length) := Lib.hid (by unfold szA; rw [if_pos hle])
      generalize idLen xs xs.length = tl at *
      go_wp2
      go_ret
      exact ⟨ret_int (by rw [HR.out, HF.out]), hb⟩
theorem eqAirway_yes (s : ByteArray) (f t l c r k : Int) (w : World) :
    Calls Tryz.prog 70 #[.agg #[.string s, .int .i64 f, .int .i64 t, .int .i64 l, .int .i64 c, .int .i64 r, .int .i64 k], .agg #[.string s, .int .i64 f, .int .i64 t, .int .i64 l, .int .i64 c, .int .i64 r, .int .i64 k]] w fun e w' => e = .returned (.bool true) ∧ Below w.heap.size w w' := by
  go_enter Tryz.func70, Tryz.ntmps70
  go_wp2
  go_ret
  exact ⟨rfl, by go_grown⟩
set_option maxRecDepth 100000 in
set_option maxHeartbeats 800000 in
theorem eqAirwayS_yes (A A' : Option Addr) (c c' : Nat) (xs : List Aw) (B B' : Nat) (w : World) (hn : xs.length ≤ 1099511627776) (hI : Recs encA 7 B w A xs) (hI' : Recs encA 7 B' w A' xs) (hB : B ≤ w.heap.size) (hB' : B' ≤ w.heap.size) :
    Calls Tryz.prog 39 #[.slice A xs.length c, .slice A' xs.length c'] w fun e w' => e = .returned (.bool true) ∧ Below w.heap.size w w' := by
  have J := Lib.hid (hI.more hB)
  have J' := Lib.hid (hI'.more hB')
  clear hI hI'
  go_enter Tryz.func39, Tryz.ntmps39
  go_wp2
  go_loopw [5] (fun i wr => ∃ k : Nat, k ≤ xs.length ∧ i = .int .i64 k ∧ Below w.heap.size w wr) (fun i _ => xs.length - (intOf i).toNat)
  case atStart => exact ⟨0, Nat.zero_le _, rfl, Below.refl _ _⟩
  case round =>
    obtain ⟨k, hk, rfl, hb⟩ := hrel
    by_cases hlt : k < xs.length
    · obtain ⟨⟨xa, xf, xt, xl, xc, xr, xk⟩, hx⟩ : ∃ x, xs.getD k aNone = x := ⟨_, rfl⟩
      obtain ⟨b, o, rfl, hab, c0, c1, c2, c3, c4, c5, c6⟩ := (J.out.below hb).cells7 hlt hx
      obtain ⟨b', o', rfl, hab', d0, d1, d2, d3, d4, d5, d6⟩ := (J'.out.below hb).cells7 hlt hx
      have HE := Lib.hid (eqAirway_yes xa xf xt xl xc xr xk)
      have i0 : (0 : Int) ≤ (k : Int) := by omega
      have i1 : (k : Int) < xs.length := by omega
      have e0 := fun L : Later wr => L.cell c0
      have e1 := fun L : Later wr => L.cell c1
      have e2 := fun L : Later wr => L.cell c2
      have e3 := fun L : Later wr => L.cell c3
      have e4 := fun L : Later wr => L.cell c4
      have e5 := fun L : Later wr => L.cell c5
      have e6 := fun L : Later wr => L.cell c6
      have g0 := fun L : Later wr => L.cell d0
      have g1 := fun L : Later wr => L.cell d1
      have g2 := fun L : Later wr => L.cell d2
      have g3 := fun L : Later wr => L.cell d3
      have g4 := fun L : Later wr => L.cell d4
      have g5 := fun L : Later wr => L.cell d5
      have g6 := fun L : Later wr => L.cell d6
      clear c0 c1 c2 c3 c4 c5 c6 d0 d1 d2 d3 d4 d5 d6 hx
      go_wp2
      refine wp_region_later (by kernel_rfl) (by kernel_rfl) ?_
      repeat (go_big_quiet_step ((go_at_call 70; first | (with_reducible exact later_b (HE.out _)) | (with_reducible exact later_d (HE.out _)) | (with_reducible exact later_s (HE.out _)))))
      refine wpQuiet_nil ?_
      intro _ hw'
      obtain ⟨LL, hw''⟩ := hw'
      subst hw''
      clear e0 e1 e2 e3 e4 e5 e6 g0 g1 g2 g3 g4 g5 g6
      have hb2 := hb.trans (LL.below.mono hb.size)
      go_wp2
      go_roundw
      case rel => exact ⟨k + 1, by omega, by go_num, hb2⟩
      case measure => simp [intOf]; omega
    · go_wp2
      go_ret
      exact ⟨rfl, hb⟩
end Go.Proofs.YtejkoicgbgoiaaaGreat

/- More shapes of arguments: a mine: a number and a slice of structs of a string and six numbers. No conditions. -/
namespace Go.Proofs.YtejkoicgbgoiaaaGreat
open Go.ChangeShapes Go.WideShapes Go.ChangeAt Go.RowKit Go.Joins Go.Deep
section
variable {H : Type} {enc : TypeId × Value → H} {P : Program} {w : World} {base : Nat} {spare : Nat → Bool} {held : Bool}
theorem spot_none {w : World} {a : Addr} {v : Value} (h : w.cell? a = some v) : a.spot = none := by
  unfold World.cell? at h
  split at h
  · split at h
    · cases h
    · rename_i hs; simpa using hs
  · cases h
/-- A slice of structs: each field's cell and reading. -/
theorem open_slice_fields {t e : TypeId} {fs : Array Field} {fuel : Nat} {cs : List Value} {x : DataW H × List MemPlace} (ht : P.underlying t = some (.slice e)) (he : P.underlying e = some (.struct fs))
    (hone : oneCellFields P fs = true) (hC : P.cellsOf e = fs.size) (h : DataW.trod enc P w base spare held fuel t cs = some x) :
    (cs = [.slice none 0 0]) ∨
    ∃ (a : Addr) (len cap m : Nat) (p : List MemPlace), cs = [.slice (some a) len cap] ∧ len ≤ cap ∧ cap ≤ maxLen ∧ m = (if spare a.block then cap else len) ∧ x.2 = MemPlace.row a (m * fs.size) ++ p ∧
      ∀ i, i < m → ∀ (j : Nat) (f : Field), fs[j]? = some f → ∃ (v : Value) (y : DataW H × List MemPlace) (n : Nat), w.cell? (a.add (i * fs.size + j)) = some v ∧ DataW.trod enc P w base spare held n f.type [v] = some y := by
  rcases open_slice ht h with ⟨h0, _⟩ | ⟨a, len, cap, m, n, D, Pl, hcs, hb, hl, hm, hmm, hx, hi⟩
  · exact .inl h0
  · refine .inr ⟨a, len, cap, m, (List.range m).flatMap Pl, hcs, hl, hm, hmm, by rw [hx, hC], fun i him j f hj => ?_⟩
    obtain ⟨cs', hc, ht'⟩ := hi i him
    rw [hC] at hc
    obtain ⟨ys, n', hn', hy, hlen, hyl, hf⟩ := DataW.trod_struct he ht'
    obtain ⟨_, hcl, hat⟩ := World.cells?_some hc
    obtain ⟨ho, hk⟩ := hone_of hone j f hj
    have hjl : j < fs.size := (Array.getElem?_eq_some_iff.1 hj).1
    have hcell := hat j hjl
    have hv : cs'[j]? = some (cs'[j]'(by omega)) := List.getElem?_eq_getElem (by omega)
    have h1 := hf j f hj
    rw [ho, hk] at h1
    have hone' : (cs'.drop j).take 1 = [cs'[j]'(by omega)] := by
      rw [List.drop_eq_getElem_cons (by omega)]
      rfl
    rw [hone'] at h1
    have hys : ys[j]? = some (ys[j]'(by omega)) := List.getElem?_eq_getElem (by omega)
    refine ⟨_, _, n', ?_, h1.trans hys⟩
    rw [← Go.Deep.add_add, hcell, hv]
theorem open_airways {W : World} {t e : TypeId} {f0 f1 f2 f3 f4 f5 f6 : Field} {fuel : Nat} {v : Value} {x : DataW H × List MemPlace} (ht : P.underlying t = some (.slice e)) (he : P.underlying e = some (.struct #[f0, f1, f2, f3, f4, f5, f6]))
    (g0 : P.underlying f0.type = some .string) (g1 : P.underlying f1.type = some (.int .i64)) (g2 : P.underlying f2.type = some (.int .i64)) (g3 : P.underlying f3.type = some (.int .i64)) (g4 : P.underlying f4.type = some (.int .i64)) (g5 : P.underlying f5.type = some (.int .i64)) (g6 : P.underlying f6.type = some (.int .i64))
    (hone : oneCellFields P #[f0, f1, f2, f3, f4, f5, f6] = true) (hC : P.cellsOf e = 7) (h : DataW.trod enc P W 0 (fun _ => true) true fuel t [v] = some x) (hlt : ∀ p ∈ x.2, p.block < W.heap.size) :
    ∃ (A : Option Addr) (c : Nat) (xs : List Aw), v = .slice A xs.length c ∧ Recs encA 7 W.heap.size W A xs ∧ FitsA xs ∧ xs.length ≤ maxLen := by
  rcases open_slice_fields ht he hone hC h with hcs | ⟨a, len, cap, m, p, hcs, hl, hm, hmm, hx, hi⟩
  · simp only [List.cons.injEq, and_true] at hcs
    subst hcs
    exact ⟨none, 0, [], rfl, Recs.nil, by simp [FitsA], by simp⟩
  · simp only [List.cons.injEq, and_true] at hcs
    subst hcs
    rw [if_pos rfl] at hmm
    subst hmm
    have hz : ∀ i, i < len → ∃ z : Aw, (∀ j u, (encA z)[j]? = some u → W.cell? (a.add (i * 7 + j)) = some u) ∧ FitsA [z] := by
      intro i hi'
      obtain ⟨v0, y0, n0, c0, t0⟩ := hi i (by omega) 0 f0 rfl
      obtain ⟨s, e0, _, b0⟩ := DataW.trod_string g0 t0
      simp only [List.cons.injEq, and_true] at e0
      subst e0
      obtain ⟨v1, y1, n1, c1, t1⟩ := hi i (by omega) 1 f1 rfl
      obtain ⟨z1, e1, _, b1⟩ := DataW.trod_int g1 t1
      simp only [List.cons.injEq, and_true] at e1
      subst e1
      obtain ⟨v2, y2, n2, c2, t2⟩ := hi i (by omega) 2 f2 rfl
      obtain ⟨z2, e2, _, b2⟩ := DataW.trod_int g2 t2
      simp only [List.cons.injEq, and_true] at e2
      subst e2
      obtain ⟨v3, y3, n3, c3, t3⟩ := hi i (by omega) 3 f3 rfl
      obtain ⟨z3, e3, _, b3⟩ := DataW.trod_int g3 t3
      simp only [List.cons.injEq, and_true] at e3
      subst e3
      obtain ⟨v4, y4, n4, c4, t4⟩ := hi i (by omega) 4 f4 rfl
      obtain ⟨z4, e4, _, b4⟩ := DataW.trod_int g4 t4
      simp only [List.cons.injEq, and_true] at e4
      subst e4
      obtain ⟨v5, y5, n5, c5, t5⟩ := hi i (by omega) 5 f5 rfl
      obtain ⟨z5, e5, _, b5⟩ := DataW.trod_int g5 t5
      simp only [List.cons.injEq, and_true] at e5
      subst e5
      obtain ⟨v6, y6, n6, c6, t6⟩ := hi i (by omega) 6 f6 rfl
      obtain ⟨z6, e6, _, b6⟩ := DataW.trod_int g6 t6
      simp only [List.cons.injEq, and_true] at e6
      subst e6
      refine ⟨⟨s, z1, z2, z3, z4, z5, z6⟩, fun j u hu => ?_, ?_⟩
      · have hj7 : j < 7 := (List.getElem?_eq_some_iff.1 hu).1
        match j, hj7 with
        | 0, _ => rw [← hu]; exact c0
        | 1, _ => rw [← hu]; exact c1
        | 2, _ => rw [← hu]; exact c2
        | 3, _ => rw [← hu]; exact c3
        | 4, _ => rw [← hu]; exact c4
        | 5, _ => rw [← hu]; exact c5
        | 6, _ => rw [← hu]; exact c6
      · intro x hx'
        obtain rfl := List.mem_singleton.1 hx'
        exact ⟨b0, bounds_i64 b1, bounds_i64 b2, bounds_i64 b3, bounds_i64 b4, bounds_i64 b5, bounds_i64 b6⟩
    let F : Nat → Aw := fun i => if h : i < len then Classical.choose (hz i h) else aNone
    have hF : ∀ i, i < len → (∀ j u, (encA (F i))[j]? = some u → W.cell? (a.add (i * 7 + j)) = some u) ∧ FitsA [F i] := by
      intro i h1
      have e : F i = Classical.choose (hz i h1) := dif_pos h1
      rw [e]
      exact Classical.choose_spec (hz i h1)
    let xs : List Aw := (List.range len).map F
    have hxl : xs.length = len := by simp [xs]
    refine ⟨some a, m, xs, by rw [hxl], ?_, ?_, by omega⟩
    · intro hpos
      rw [hxl] at hpos
      have hb : a.block < W.heap.size := by
        refine hlt (MemPlace.cell a.block a.off) ?_
        rw [hx]
        exact List.mem_append_left _ (row_head (by show 0 < m * 7; omega))
      have hs : a.spot = none := spot_none (by have := (hF 0 hpos).1 0 (.string (F 0).id) rfl; rw [show a.add (0 * 7 + 0) = a by simp [Addr.add]] at this; exact this)
      obtain ⟨b, o, s⟩ := a
      simp only at hs
      subst hs
      refine ⟨b, o, rfl, hb, fun k hk j u hu => ?_⟩
      rw [hxl] at hk
      have e : xs[k] = F k := by simp [xs]
      rw [e] at hu
      have hc := (hF k hk).1 j u hu
      rw [Addr.add_lit, ← Nat.add_assoc] at hc
      exact hc
    · intro x hx'
      obtain ⟨i, hi', rfl⟩ := List.mem_map.1 hx'
      exact (hF i (List.mem_range.1 hi')).2 _ (List.mem_singleton.2 rfl)
end
end Go.Proofs.YtejkoicgbgoiaaaGreat

/- A copy of a list of numbers by the library's Clone; whether a number is an index of a list. Conditions: the lengths that each theorem names. -/
namespace Go.Proofs.YtejkoicgbgoiaaaGreat
open Go.RowKit
open Pl
theorem Ints.none_nil {B : Nat} {w : World} {xs : List Int} (h : Ints B w none xs) : xs = [] := by
  cases xs with
  | nil => rfl
  | cons x xs => obtain ⟨ad, e, _⟩ := h (by simp); cases e
set_option maxRecDepth 100000 in
theorem Clone_any (A : Option Addr) (c : Nat) (xs : List Int) (B : Nat) (w : World) (hn : xs.length ≤ 1048576) (hI : Ints B w A xs) :
    Calls Tryz.prog 63 #[.slice A xs.length c] w fun e w' => ∃ v, e = .returned v ∧ Own w.heap.size w' v xs ∧ Below w.heap.size w w' := by
  have q22 : ∀ (w : World) (a : Option Addr) (n c n' c' : Nat), (binOp .eql 25 (.slice a n c) (.slice none n' c')).run Tryz.prog w = .ok (.bool a.isNone) w := fun w a n c n' c' => Lib.run_eql_slice_nil w _ _ a n c n' c' Tryz.underlying25
  cases A with
  | none =>
    obtain rfl := hI.none_nil
    go_enter Tryz.func63, Tryz.ntmps63
    go_wp2
    go_ret
    exact ⟨_, rfl, Own.nil_ _ _, Below.refl _ _⟩
  | some ad =>
    obtain ⟨i0, hi, hz0, hz1, hz2⟩ := info_parts infoI
    have J : Hid (∀ j u, (vals xs)[j]? = some u → w.cell? (ad.add j) = some u) := Lib.hid (by
      intro j u hj
      obtain ⟨hj', _⟩ := List.getElem?_eq_some_iff.1 hj
      rw [vals_length] at hj'
      rw [vals_get hj'] at hj
      injection hj with hj
      subst hj
      obtain ⟨ad', e, _, hc⟩ := hI.at_ hj'
      injection e with e
      subst e
      exact hc)
    clear hI
    have H1 : Hid (∀ u ∈ vals xs, u.oneCell' = true) := Lib.hid (by
      intro u hu
      unfold vals at hu
      obtain ⟨x, _, rfl⟩ := List.mem_map.1 hu
      rfl)
    have HF := Lib.hid (And.intro hi (And.intro hz0 (And.intro hz1 hz2)))
    clear hi hz0 hz1 hz2
    go_enter Tryz.func63, Tryz.ntmps63
    go_wp2_with (at_builtin; refine wpList_append_own _ rfl _ _ 25 rfl w.heap.size 2 i0 (.int .i64 0) 1 8 Tryz.underlying25 HF.out.1 HF.out.2.1 HF.out.2.2.1 HF.out.2.2.2 rfl (by decide) _ _ _ rfl (World.ownsRow_made w #[] 0 (Nat.le_refl _) (Nat.zero_le _) (by simp)) ad xs.length c (vals xs) rfl ?qc1 ?qc2 ?qc3 ?qc4 ?qc5 ?qc6 ?_)
    case qc1 => rw [vals_length, Nat.mul_one]
    case qc2 => intro j u hj; exact Lib.cell?_alloc_some _ (J.out j u hj)
    case qc3 => exact H1.out
    case qc4 => exact le_max (by omega)
    case qc5 => omega
    case qc6 => simp
    intro v' w1 hown hgrow hnil
    go_wp2
    go_ret
    refine ⟨v', rfl, ?_, ?_⟩
    · unfold Own; simpa using hown
    · exact ((Below.refl _ w).alloc (Nat.le_refl _) _).grown hgrow (by simp) (by intro k hk; simp [Value.ownBlock] at hk; omega)
end Go.Proofs.YtejkoicgbgoiaaaGreat

/- Lists of lists of numbers: what one is in memory; the laws' own functions on them: a copy, a comparison, a size; how an argument of that shape opens. Conditions: the lengths that each theorem names. -/
namespace Go.Proofs.YtejkoicgbgoiaaaGreat
open Go.RowKit
open Pl
/-- 'Nest B w A xss': from address A on lie slices that read as the lists xss, all in blocks below B. -/
def Nest (B : Nat) (w : World) (A : Option Addr) (xss : List (List Int)) : Prop :=
  0 < xss.length → ∃ b o, A = some ⟨b, o, none⟩ ∧ b < B ∧ ∀ k (h : k < xss.length), ∃ A' c, w.cell? ⟨b, o + k, none⟩ = some (.slice A' xss[k].length c) ∧ Ints B w A' xss[k]
theorem Nest.nil {B : Nat} {w : World} {A : Option Addr} : Nest B w A [] := fun h => by simp at h
theorem Nest.below {B : Nat} {w w' : World} {A : Option Addr} {xss : List (List Int)} (h : Nest B w A xss) (hb : Below B w w') : Nest B w' A xss := by
  intro hn
  obtain ⟨b, o, e, hlt, hc⟩ := h hn
  refine ⟨b, o, e, hlt, fun k hk => ?_⟩
  obtain ⟨A', c, h1, h2⟩ := hc k hk
  exact ⟨A', c, (hb.cell (p := ⟨b, o + k, none⟩) hlt).trans h1, h2.below hb⟩
theorem Nest.more {B B' : Nat} {w : World} {A : Option Addr} {xss : List (List Int)} (h : Nest B w A xss) (hB : B ≤ B') : Nest B' w A xss := by
  intro hn
  obtain ⟨b, o, e, hlt, hc⟩ := h hn
  refine ⟨b, o, e, by omega, fun k hk => ?_⟩
  obtain ⟨A', c, h1, h2⟩ := hc k hk
  exact ⟨A', c, h1, h2.more hB⟩
theorem Nest.later {w w' : World} {A : Option Addr} {xss : List (List Int)} (h : Nest w.heap.size w A xss) (hb : Below w.heap.size w w') : Nest w'.heap.size w' A xss := (h.below hb).more hb.size
theorem Nest.at_ {B : Nat} {w : World} {A : Option Addr} {xss : List (List Int)} (h : Nest B w A xss) {k : Nat} (hk : k < xss.length) : ∃ b o, A = some ⟨b, o, none⟩ ∧ b < B ∧ ∃ A' c, w.cell? ⟨b, o + k, none⟩ = some (.slice A' xss[k].length c) ∧ Ints B w A' xss[k] := by
  obtain ⟨b, o, e, hb, hc⟩ := h (by omega)
  exact ⟨b, o, e, hb, hc k hk⟩
theorem Ints.setCell {B : Nat} {w : World} {A : Option Addr} {xs : List Int} (h : Ints B w A xs) {p : Addr} {v : Value} (hne : ∀ ad, A = some ad → ad.block ≠ p.block) : Ints B (w.setCell p v) A xs := by
  intro hn
  obtain ⟨ad, e, hlt, hc⟩ := h hn
  refine ⟨ad, e, hlt, fun k hk => ?_⟩
  rw [World.cell?_setCell_other _ _ _ _ (fun e' => hne ad e (by rw [← block_add ad k]; exact (congrArg Addr.block e').symm))]
  exact hc k hk
/-- As 'Nest', and all of it in blocks from L on. -/
def NestL (L B : Nat) (w : World) (A : Option Addr) (xss : List (List Int)) : Prop :=
  0 < xss.length → ∃ b o, A = some ⟨b, o, none⟩ ∧ L ≤ b ∧ b < B ∧ ∀ k (h : k < xss.length), ∃ A' c, w.cell? ⟨b, o + k, none⟩ = some (.slice A' xss[k].length c) ∧ Ints B w A' xss[k] ∧ ∀ ad, A' = some ad → L ≤ ad.block
theorem NestL.nest {L B : Nat} {w : World} {A : Option Addr} {xss : List (List Int)} (h : NestL L B w A xss) : Nest B w A xss := by
  intro hn
  obtain ⟨b, o, e, _, hlt, hc⟩ := h hn
  refine ⟨b, o, e, hlt, fun k hk => ?_⟩
  obtain ⟨A', c, h1, h2, _⟩ := hc k hk
  exact ⟨A', c, h1, h2⟩
theorem NestL.later {L : Nat} {w w' : World} {A : Option Addr} {xss : List (List Int)} (h : NestL L w.heap.size w A xss) (hb : Below w.heap.size w w') : NestL L w'.heap.size w' A xss := by
  intro hn
  obtain ⟨b, o, e, hl, hlt, hc⟩ := h hn
  refine ⟨b, o, e, hl, Nat.lt_of_lt_of_le hlt hb.size, fun k hk => ?_⟩
  obtain ⟨A', c, h1, h2, h3⟩ := hc k hk
  exact ⟨A', c, (hb.cell (p := ⟨b, o + k, none⟩) hlt).trans h1, (h2.below hb).more hb.size, h3⟩
theorem NestL.less {L L' B : Nat} {w : World} {A : Option Addr} {xss : List (List Int)} (h : NestL L B w A xss) (hL : L' ≤ L) : NestL L' B w A xss := by
  intro hn
  obtain ⟨b, o, e, hl, hlt, hc⟩ := h hn
  refine ⟨b, o, e, by omega, hlt, fun k hk => ?_⟩
  obtain ⟨A', c, h1, h2, h3⟩ := hc k hk
  exact ⟨A', c, h1, h2, fun ad ha => by have := h3 ad ha; omega⟩
theorem NestL.setCell {L B : Nat} {w : World} {A : Option Addr} {xss : List (List Int)} (h : NestL L B w A xss) {p : Addr} {v : Value} (hp : p.block < L) : NestL L B (w.setCell p v) A xss := by
  intro hn
  obtain ⟨b, o, e, hl, hlt, hc⟩ := h hn
  refine ⟨b, o, e, hl, hlt, fun k hk => ?_⟩
  obtain ⟨A', c, h1, h2, h3⟩ := hc k hk
  refine ⟨A', c, ?_, Ints.setCell h2 (fun ad ha => by have := h3 ad ha; omega), h3⟩
  rw [World.cell?_setCell_other _ _ _ _ (fun e' => by have := congrArg Addr.block e'; simp at this; omega)]
  exact h1
theorem szInt64S_yes (A : Option Addr) (c n : Nat) (left : Int) (w : World) (h0 : left ≤ 1048576) (h : (n : Int) ≤ left) :
    Calls Tryz.prog 50 #[.slice A n c, .int .i64 left] w fun e w' => e = .returned (.int .i64 (left - n)) ∧ w = w' := by
  go_enter Tryz.func50, Tryz.ntmps50
  go_wp2
  go_ret
  exact ⟨rfl, rfl⟩
theorem szInt64S_no (A : Option Addr) (c n : Nat) (left : Int) (w : World) (h1 : 0 ≤ left) (h0 : left ≤ 1048576) (hn : n ≤ maxLen) (h : left < (n : Int)) :
    Calls Tryz.prog 50 #[.slice A n c, .int .i64 left] w fun e w' => e = .returned (.int .i64 (-1)) ∧ w = w' := by
  unfold maxLen at hn
  go_enter Tryz.func50, Tryz.ntmps50
  go_wp2
  go_ret
  exact ⟨rfl, rfl⟩
/-- How many numbers the first k lists hold. -/
def totLen (xss : List (List Int)) : Nat → Int | 0 => 0 | k + 1 => totLen xss k + (xss.getD k []).length
theorem totLen_nonneg (xss : List (List Int)) : ∀ k, 0 ≤ totLen xss k
  | 0 => by simp [totLen]
  | k + 1 => by have := totLen_nonneg xss k; unfold totLen; omega
theorem totLen_mono (xss : List (List Int)) : ∀ (d k : Nat), totLen xss k ≤ totLen xss (k + d)
  | 0, k => Int.le_refl _
  | d + 1, k => by have := totLen_mono xss d k; have e : totLen xss (k + (d + 1)) = totLen xss (k + d) + (xss.getD (k + d) []).length := rfl; omega
def szL (xss : List (List Int)) (left : Int) : Int := if (xss.length : Int) + totLen xss xss.length ≤ left then left - xss.length - totLen xss xss.length else -1
theorem getD_il {xss : List (List Int)} {k : Nat} (h : k < xss.length) : xss.getD k [] = xss[k] := by simp [List.getD, h]
theorem Nest.atD {B : Nat} {w : World} {A : Option Addr} {xss : List (List Int)} (h : Nest B w A xss) {k : Nat} (hk : k < xss.length) : ∃ b o, A = some ⟨b, o, none⟩ ∧ b < B ∧ ∃ A' c, w.cell? ⟨b, o + k, none⟩ = some (.slice A' (xss.getD k []).length c) ∧ Ints B w A' (xss.getD k []) := by
  rw [getD_il hk]; exact h.at_ hk
theorem szInt64SS_any (A : Option Addr) (c : Nat) (xss : List (List Int)) (left : Int) (B : Nat) (w : World) (h1 : 0 ≤ left) (h0 : left ≤ 1048576) (hn : xss.length ≤ maxLen) (hl : ∀ xs ∈ xss, xs.length ≤ maxLen) (hI : Nest B w A xss) :
    Calls Tryz.prog 49 #[.slice A xss.length c, .int .i64 left] w fun e w' => e = .returned (.int .i64 (szL xss left)) ∧ w = w' := by
  obtain ⟨R, hR⟩ : ∃ R, R = szL xss left := ⟨_, rfl⟩
  rw [← hR]
  have HR := Lib.hid hR
  clear hR
  have J := Lib.hid hI
  clear hI
  have HL := Lib.hid hl
  clear hl
  have HN := Lib.hid (totLen_nonneg xss)
  have hz := HN.out xss.length
  unfold maxLen at hn
  by_cases h2 : left < xss.length
  · have HF : Hid (szL xss left = -1) := Lib.hid (by unfold szL; rw [if_neg (by omega)])
    clear hz
    go_enter Tryz.func49, Tryz.ntmps49
    go_wp2
    go_ret
    exact ⟨ret_int (by rw [HR.out, HF.out]), rfl⟩
  obtain ⟨m, m1, m2, m3⟩ := first_stop (fun k => decide ((xss.length : Int) + totLen xss (k + 1) ≤ left)) xss.length
  have M2 := Lib.hid m2
  have M3 := Lib.hid m3
  clear m2 m3 hz
  go_enter Tryz.func49, Tryz.ntmps49
  go_wp2
  go_loop [1, 5] (fun s i => ∃ k : Nat, k ≤ m ∧ i = .int .i64 k ∧ s = .int .i64 (left - xss.length - totLen xss k) ∧ (xss.length : Int) + totLen xss k ≤ left) (fun _ i => xss.length - (intOf i).toNat)
  case atStart => exact ⟨0, Nat.zero_le _, rfl, by simp [totLen], by simp [totLen]; omega⟩
  case round =>
    obtain ⟨k, hk, rfl, rfl, hle⟩ := hrel
    have hz := HN.out k
    by_cases hlt : k < xss.length
    · obtain ⟨b, o, rfl, _, A', c', hc, _⟩ := J.out.atD hlt
      have hs : totLen xss (k + 1) = totLen xss k + (xss.getD k []).length := rfl
      have hlen : (xss.getD k []).length ≤ maxLen := by rw [getD_il hlt]; exact HL.out _ (List.getElem_mem hlt)
      have i0 : (0 : Int) ≤ (k : Int) := by omega
      have i1 : (k : Int) < xss.length := by omega
      have HS := Lib.hid hs
      by_cases hkm : k < m
      · have hp := of_decide_eq_true (M2.out k hkm)
        rw [hs] at hp
        generalize totLen xss k = t at *
        generalize (xss.getD k []).length = ln at *
        have HZ := Lib.hid (fun W => szInt64S_yes A' c' ln (left - xss.length - t) W (by omega) (by omega))
        clear hs hlen
        go_wp2_with (go_at_call 50; refine (HZ.out _).mono ?_; rintro e w' ⟨rfl, rfl⟩)
        go_round
        case rel => exact ⟨k + 1, by omega, by go_num, by rw [HS.out]; go_num, by rw [HS.out]; omega⟩
        case measure => simp [intOf]; omega
      · obtain rfl : m = k := by omega
        have hp := of_decide_eq_false (M3.out hlt)
        rw [hs] at hp
        have HF : Hid (szL xss left = -1) := Lib.hid (by
          unfold szL
          have h5 := totLen_mono xss (xss.length - (m + 1)) (m + 1)
          rw [show m + 1 + (xss.length - (m + 1)) = xss.length by omega] at h5
          rw [if_neg (by omega)])
        generalize totLen xss m = t at *
        generalize (xss.getD m []).length = ln at *
        have HZ := Lib.hid (fun W => szInt64S_no A' c' ln (left - xss.length - t) W (by omega) (by omega) hlen (by omega))
        clear hs hlen
        go_wp2_with (go_at_call 50; refine (HZ.out _).mono ?_; rintro e w' ⟨rfl, rfl⟩)
        go_ret
        exact ⟨ret_int (by rw [HR.out, HF.out]), rfl⟩
    · obtain rfl : k = xss.length := by omega
      have HF : Hid (szL xss left = left - xss.length - totLen xss xss.length) := Lib.hid (by unfold szL; rw [if_pos hle])
      generalize totLen xss xss.length = t at *
      go_wp2
      go_ret
      exact ⟨ret_int (by rw [HR.out, HF.out]), rfl⟩
theorem infoII : (Tryz.prog.info? 25).map (fun i => (i.zero, i.size, i.bytes)) = some (some (.slice none 0 0), 1, 24) := by kernel_rfl
/-- The lists that have been copied so far. -/
def Copied (g : Nat) (w : World) (zs : List Value) (xss : List (List Int)) (k : Nat) : Prop :=
  ∀ j (h : j < xss.length), j < k → ∃ A' c, zs[j]? = some (.slice A' xss[j].length c) ∧ Ints w.heap.size w A' xss[j] ∧ ∀ ad, A' = some ad → g < ad.block
set_option maxRecDepth 100000 in
theorem toInt64SS_low (A : Option Addr) (c : Nat) (xss : List (List Int)) (B : Nat) (w : World) (hn : xss.length ≤ 1048576) (hl : ∀ xs ∈ xss, xs.length ≤ 1048576) (hI : Nest B w A xss) (hB : B ≤ w.heap.size) :
    Calls Tryz.prog 54 #[.slice A xss.length c] w fun e w' => e = .returned (.slice (some ⟨w.heap.size, 0, none⟩) xss.length xss.length) ∧ NestL w.heap.size w'.heap.size w' (some ⟨w.heap.size, 0, none⟩) xss ∧ Below w.heap.size w w' := by
  obtain ⟨i0, hi, hz0, hz1, hz2⟩ := info_parts infoII
  have hbb : i0.bytes * xss.length ≤ 281474976710656 := by rw [hz2]; omega
  have hmx : xss.length ≤ maxLen := le_max (by omega)
  have J := Lib.hid (hI.more hB)
  have HL := Lib.hid hl
  clear hI hl
  go_enter Tryz.func54, Tryz.ntmps54
  go_wp2_with (at_make; refine wpList_make_full _ rfl (.tmp 6) (.tmp 6) 48 rfl w.heap.size 25 i0 (.slice none 0 0) 1 Tryz.underlying48 hi hz0 hz1 .i64 .i64 (xss.length : Int) (xss.length : Int) xss.length rfl rfl rfl rfl hbb hmx (Nat.le_refl _) ?_; intro w1 hown hgr)
  have hbe : Below w.heap.size w w1 := (Below.refl _ _).grown hgr (Nat.le_refl _) (fun k hk => by cases hk)
  have HO : ∃ zs : List Value, zs.length = xss.length ∧ (∀ z ∈ zs, z.oneCell' = true) ∧ w1.ownsRow w.heap.size 25 1 (.slice (some ⟨w.heap.size, 0, none⟩) xss.length xss.length) xss.length zs := by
    have e : (madeCells (Value.slice none 0 0).cells (xss.length * 1)).toList = List.replicate xss.length (Value.slice none 0 0) := by
      rw [Nat.mul_one]; exact toList_madeCells_one _ _
    rw [e] at hown
    exact ⟨_, by simp, fun z hz => by rw [List.eq_of_mem_replicate hz]; rfl, hown⟩
  clear hown hgr hbb hmx hi hz0 hz1 hz2
  have HH := Lib.hid HO
  clear HO
  go_wp2
  go_loopw [4] (fun i wr => ∃ k : Nat, k ≤ xss.length ∧ i = .int .i64 k ∧ Below w.heap.size w wr ∧ w.heap.size < wr.heap.size ∧ ∃ zs : List Value, zs.length = xss.length ∧ Copied w.heap.size wr zs xss k ∧ wr.ownsRow w.heap.size 25 1 (.slice (some ⟨w.heap.size, 0, none⟩) xss.length xss.length) xss.length zs) (fun i _ => xss.length - (intOf i).toNat)
  case atStart =>
    obtain ⟨zs, h1, h2, h3⟩ := HH.out
    exact ⟨0, Nat.zero_le _, rfl, hbe, (World.ownsRow.lt h3 _ rfl).2, zs, h1, fun j _ hj => by omega, h3⟩
  case round =>
    obtain ⟨k, hk, rfl, hb, hlt2, zs, hz, ht, ho⟩ := hrel
    by_cases hlt : k < xss.length
    · obtain ⟨b, o, rfl, hab, A', c', hc, hI'⟩ := (J.out.below hb).at_ hlt
      have HT := Lib.hid ht
      have HZ := Lib.hid hz
      have HO := Lib.hid ho
      have HC := Lib.hid (toInt64S_any A' c' xss[k] w.heap.size wr (HL.out _ (List.getElem_mem hlt)) hI' hb.size)
      have i0 : (0 : Int) ≤ (k : Int) := by omega
      have i1 : (k : Int) < xss.length := by omega
      clear hI' ht hz ho
      generalize hx : xss[k] = xs at *
      have HX := Lib.hid hx
      clear hx
      go_wp2_with fail
      refine HC.out.mono ?_
      rintro e w2 ⟨rfl, ho2, hb2⟩
      have hown2 := HO.out
      have hbw : Below w.heap.size w w2 := hb.trans (hb2.mono hb.size)
      have hz2 : wr.heap.size ≤ w2.heap.size := hb2.size
      have hO2 : w2.ownsRow w.heap.size 25 1 (.slice (some ⟨w.heap.size, 0, none⟩) xss.length xss.length) xss.length zs := by
        refine ⟨hown2.1, ?_⟩
        rcases hown2.2 with hn' | ⟨g, cap, cur, e1, e2, e3, rest⟩
        · exact .inl hn'
        · refine .inr ⟨g, cap, cur, e1, e2, (hb2.block g ?_).trans e3, rest⟩
          have := (World.ownsRow.lt hown2 g (by rw [e1]; rfl)).2
          exact this
      have hfz : w2.frozen? ⟨w.heap.size, k, none⟩ = false := World.ownsRow.frozenAt hO2 k
      obtain ⟨y, hold⟩ : ∃ y, w2.cell? ⟨w.heap.size, k, none⟩ = some y := by
        have := World.ownsRow.cellAt hO2 k (by omega)
        rw [List.getElem?_eq_getElem (by rw [HZ.out]; exact hlt)] at this
        exact ⟨_, this⟩
      have HO2 := Lib.hid hO2
      have HI2 := Lib.hid ho2.ints
      clear hO2 ho2 hown2
      go_wp2_with fail
      go_roundw
      case rel =>
        obtain ⟨h1, h2⟩ := World.ownsRow.stored HO2.out k (.slice (some ⟨wr.heap.size, 0, none⟩) xs.length xs.length)
        refine ⟨k + 1, by omega, by go_num, hbw.setCell (by simp) _, by simp; omega, _, by rw [List.length_set]; exact HZ.out, ?_, h1⟩
        intro j hj hj2
        by_cases e : j = k
        · subst e
          refine ⟨some ⟨wr.heap.size, 0, none⟩, xs.length, by rw [List.getElem?_set_self (by rw [HZ.out]; exact hlt), HX.out], ?_, fun ad h => by cases h; exact hlt2⟩
          rw [HX.out]
          exact Ints.setCell (by simpa using HI2.out) (fun ad h => by cases h; simp; omega)
        · obtain ⟨A1, c1, g1, g2, g3⟩ := HT.out j hj (by omega)
          refine ⟨A1, c1, by rw [List.getElem?_set_ne (Ne.symm e)]; exact g1, ?_, g3⟩
          have g4 : Ints w2.heap.size w2 A1 xss[j] := (g2.below hb2).more hz2
          exact Ints.setCell (by simpa using g4) (fun ad h => by have := g3 ad h; simp; omega)
      case measure => simp [intOf]; omega
    · obtain rfl : k = xss.length := by omega
      have HT := Lib.hid ht
      have HO := Lib.hid ho
      clear ho hz ht
      go_wp2
      go_ret
      refine ⟨rfl, fun _ => ⟨w.heap.size, 0, rfl, Nat.le_refl _, hlt2, fun k hk => ?_⟩, hb⟩
      obtain ⟨A', c', g1, g2, g3⟩ := HT.out k hk hk
      refine ⟨A', c', ?_, g2, fun ad ha => by have := g3 ad ha; omega⟩
      rw [Nat.zero_add, World.ownsRow.cellAt HO.out k (by omega)]
      exact g1
theorem toInt64SS_any (A : Option Addr) (c : Nat) (xss : List (List Int)) (B : Nat) (w : World) (hn : xss.length ≤ 1048576) (hl : ∀ xs ∈ xss, xs.length ≤ 1048576) (hI : Nest B w A xss) (hB : B ≤ w.heap.size) :
    Calls Tryz.prog 54 #[.slice A xss.length c] w fun e w' => e = .returned (.slice (some ⟨w.heap.size, 0, none⟩) xss.length xss.length) ∧ Nest w'.heap.size w' (some ⟨w.heap.size, 0, none⟩) xss ∧ Below w.heap.size w w' :=
  (toInt64SS_low A c xss B w hn hl hI hB).mono fun _ _ ⟨h1, h2, h3⟩ => ⟨h1, h2.nest, h3⟩
set_option maxRecDepth 100000 in
theorem eqInt64SS_yes (A A' : Option Addr) (c c' : Nat) (xss : List (List Int)) (B B' : Nat) (w : World) (hn : xss.length ≤ 1099511627776) (hl : ∀ xs ∈ xss, xs.length ≤ 1048576) (hI : Nest B w A xss) (hI' : Nest B' w A' xss) (hB : B ≤ w.heap.size) (hB' : B' ≤ w.heap.size) :
    Calls Tryz.prog 58 #[.slice A xss.length c, .slice A' xss.length c'] w fun e w' => e = .returned (.bool true) ∧ Below w.heap.size w w' := by
  have J := Lib.hid (hI.more hB)
  have J' := Lib.hid (hI'.more hB')
  have HL := Lib.hid hl
  clear hI hI' hl
  go_enter Tryz.func58, Tryz.ntmps58
  go_wp2
  go_loopw [5] (fun i wr => ∃ k : Nat, k ≤ xss.length ∧ i = .int .i64 k ∧ Below w.heap.size w wr) (fun i _ => xss.length - (intOf i).toNat)
  case atStart => exact ⟨0, Nat.zero_le _, rfl, Below.refl _ _⟩
  case round =>
    obtain ⟨k, hk, rfl, hb⟩ := hrel
    by_cases hlt : k < xss.length
    · obtain ⟨b, o, rfl, hab, A1, c1, d0, I1⟩ := (J.out.below hb).at_ hlt
      obtain ⟨b', o', rfl, hab', A2, c2, d1, I2⟩ := (J'.out.below hb).at_ hlt
      have hll := HL.out _ (List.getElem_mem hlt)
      generalize xss[k] = xs at *
      have HE := Lib.hid (fun L : Later wr => eqInt64S_yes A1 A2 c1 c2 xs _ _ L.world (by omega) ((I1.more hb.size).below L.below) ((I2.more hb.size).below L.below))
      have i0 : (0 : Int) ≤ (k : Int) := by omega
      have i1 : (k : Int) < xss.length := by omega
      have e0 := fun L : Later wr => L.cell d0
      have e1 := fun L : Later wr => L.cell d1
      clear d0 d1 I1 I2
      go_wp2
      refine wp_region_later (by kernel_rfl) (by kernel_rfl) ?_
      repeat (go_big_quiet_step ((go_at_call 15; first | (with_reducible exact later_b (HE.out _)) | (with_reducible exact later_d (HE.out _)) | (with_reducible exact later_s (HE.out _)))))
      refine wpQuiet_nil ?_
      intro _ hw'
      obtain ⟨LL, hw''⟩ := hw'
      subst hw''
      clear e0 e1
      have hb2 := hb.trans (LL.below.mono hb.size)
      go_wp2
      go_roundw
      case rel => exact ⟨k + 1, by omega, by go_num, hb2⟩
      case measure => simp [intOf]; omega
    · go_wp2
      go_ret
      exact ⟨rfl, hb⟩
end Go.Proofs.YtejkoicgbgoiaaaGreat

/- More shapes of arguments: a list of lists of numbers. No conditions. -/
namespace Go.Proofs.YtejkoicgbgoiaaaGreat
open Go.ChangeShapes Go.WideShapes Go.ChangeAt Go.RowKit Go.Joins Go.Deep
def FitsSS (xss : List (List Int)) : Prop := ∀ xs ∈ xss, Fits xs ∧ xs.length ≤ maxLen
section
variable {H : Type} {enc : TypeId × Value → H} {P : Program} {W : World}
theorem cell_spot {w : World} {a : Addr} {v : Value} (h : w.cell? a = some v) : a.spot = none := by
  unfold World.cell? at h
  split at h
  · split at h
    · cases h
    · rename_i hs; simpa using hs
  · cases h
theorem open_intss_at {t e q : TypeId} {r : Reach} {b0 : Nat} {v : Value} {d : DataW H} {ps : List MemPlace} (ht : P.underlying t = some (.slice e)) (he : P.underlying e = some (.slice q)) (hq : P.underlying q = some (.int .i64)) (ce : P.cellsOf e = 1) (cq : P.cellsOf q = 1)
    (hval : Value.okWide P W r b0 t v) (h : DataW.Trod enc P W 0 (fun _ => true) true t v d ps) (hlt : ∀ p ∈ ps, p.block < W.heap.size) :
    ∃ (A : Option Addr) (c : Nat) (xss : List (List Int)), v = .slice A xss.length c ∧ Nest W.heap.size W A xss ∧ FitsSS xss ∧ xss.length ≤ maxLen := by
  obtain ⟨a0, len, cap, rfl⟩ := okWide_slice ht hval
  obtain ⟨fuel, hf⟩ := h
  rcases open_int_rows ht he hq ce cq hf with ⟨hcs, _⟩ | ⟨a, len', cap', A, L, C, Z, hcs, _, hl, hm, hx, hr⟩
  · simp only [Value.cells, List.cons.injEq, Value.slice.injEq, and_true] at hcs
    obtain ⟨rfl, rfl, rfl⟩ := hcs
    exact ⟨none, 0, [], rfl, Nest.nil, by simp [FitsSS], by simp⟩
  · simp only [Value.cells, List.cons.injEq, Value.slice.injEq, and_true] at hcs
    obtain ⟨rfl, rfl, rfl⟩ := hcs
    have hps : ps = MemPlace.row a cap ++ (List.range cap).flatMap fun r => intRowPlaces (A r) (Z r) := congrArg Prod.snd hx
    have hrl : ∀ i, i < len → ((Z i).take (L i)).length = L i := fun i hi => by
      obtain ⟨_, h2, _, h4, _⟩ := hr i (by omega)
      rw [List.length_take]; omega
    let xss : List (List Int) := (List.range len).map fun i => (Z i).take (L i)
    have hxl : xss.length = len := by simp [xss]
    refine ⟨some a, cap, xss, by rw [hxl], ?_, ?_, by omega⟩
    · intro hpos
      rw [hxl] at hpos
      have hb : a.block < W.heap.size := by
        refine hlt (MemPlace.cell a.block a.off) ?_
        rw [hps]
        exact List.mem_append_left _ (row_head (by omega))
      have hs : a.spot = none := cell_spot (by have := (hr 0 (by omega)).1; rw [show a.add 0 = a by simp [Addr.add]] at this; exact this)
      have hrr := hr
      obtain ⟨b, o, s⟩ := a
      simp only at hs
      subst hs
      refine ⟨b, o, rfl, hb, fun k hk => ?_⟩
      rw [hxl] at hk
      obtain ⟨h1, h2, h3, h4, h5, h6, h7⟩ := hr k (by omega)
      have e : xss[k] = (Z k).take (L k) := by simp [xss]
      rw [e, hrl k hk]
      refine ⟨A k, C k, by rw [Addr.add_lit] at h1; exact h1, fun hp => ?_⟩
      rw [hrl k hk] at hp
      cases hA : A k with
      | none => have := h6 hA; omega
      | some a' =>
        obtain ⟨_, hc⟩ := h7 a' hA
        have hb' : a'.block < W.heap.size := by
          refine hlt (MemPlace.cell a'.block a'.off) ?_
          rw [hps]
          refine List.mem_append_right _ (List.mem_flatMap.2 ⟨k, List.mem_range.2 (by omega), ?_⟩)
          rw [hA]
          exact row_head (by omega)
        refine ⟨a', rfl, hb', fun j hj => ?_⟩
        rw [hrl k hk] at hj
        rw [hc j (by omega), List.getElem_take]
        simp [List.getD, show j < (Z k).length by omega]
    · intro xs hxs
      obtain ⟨i, hi, rfl⟩ := List.mem_map.1 hxs
      have hi := List.mem_range.1 hi
      obtain ⟨_, h2, h3, h4, h5, _⟩ := hr i (by omega)
      exact ⟨fun x hx => bounds_i64 (h5 x (List.mem_of_mem_take hx)), by rw [hrl i hi]; omega⟩
end
end Go.Proofs.YtejkoicgbgoiaaaGreat
