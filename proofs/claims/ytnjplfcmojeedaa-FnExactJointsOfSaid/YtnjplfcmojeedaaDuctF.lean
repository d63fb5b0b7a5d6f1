/- Flows in ducts: joints, what is left behind some of them; the program's and the reference's; and the walks of the laws. Conditions: the bounds that each theorem names. -/
import Derived.Test.YtnjplfcmojeedaaDuct
import Derived.Test.YtnjplfcmojeedaaSteps
import Derived.Test.YtnjplfcmojeedaaQuiet
import Derived.Deep.RegionWith
import Derived.Outline
namespace Go.Proofs.Ytnjplfcmojeedaa
open Go.RowKit
open Pl
theorem ductB_bd {s : ByteArray} {l j x : Int} (h : ductB s l j x = true) : 1 ≤ l ∧ l ≤ 2000 ∧ 5 ≤ j ∧ j ≤ 50 ∧ 0 ≤ x ∧ x ≤ 100000 := by
  unfold ductB at h
  simp only [Bool.and_eq_true] at h
  obtain ⟨_, h1, h2, h3⟩ := h
  have a := inB_iff.1 h1; have b := inB_iff.1 h2; have c := inB_iff.1 h3
  omega
/-- The number of joints. -/
def jointsF (l j : Int) : Int := (l - 1) / j
theorem joints_bd {l j : Int} (h1 : 1 ≤ l) (h2 : l ≤ 2000) (h3 : 5 ≤ j) : 0 ≤ jointsF l j ∧ jointsF l j ≤ 2000 := by
  unfold jointsF
  have a : 0 ≤ (l - 1) / j := Int.ediv_nonneg (by omega) (by omega)
  have b : (l - 1) / j ≤ l - 1 := Int.ediv_le_self _ (by omega)
  omega
theorem joints_ex (s : ByteArray) (l j x : Int) (w : World) (h1 : 1 ≤ l) (h2 : l ≤ 2000) (h3 : 5 ≤ j) (h4 : j ≤ 50) :
    Calls Try.prog 68 #[.agg #[.string s, .int .i64 l, .int .i64 j, .int .i64 x]] w fun e w' => e = .returned (.int .i64 (jointsF l j)) ∧ w.alloc (.cells #[.string s, .int .i64 l, .int .i64 j, .int .i64 x] 31) = w' := by
  unfold jointsF
  go_enter Try.func68, Try.ntmps68
  go_wp2
  go_ret
  exact ⟨rfl, rfl⟩
theorem joints_any (s : ByteArray) (l j x : Int) (w : World) (h1 : 1 ≤ l) (h2 : l ≤ 2000) (h3 : 5 ≤ j) (h4 : j ≤ 50) :
    Calls Try.prog 68 #[.agg #[.string s, .int .i64 l, .int .i64 j, .int .i64 x]] w fun e w' => e = .returned (.int .i64 (jointsF l j)) ∧ Below w.heap.size w w' := by
  refine (joints_ex s l j x w h1 h2 h3 h4).mono ?_
  rintro e w' ⟨he, rfl⟩
  exact ⟨he, by go_grown⟩
theorem l11Joints_any (b o : Nat) (l j : Int) (w : World) (h1 : 1 ≤ l) (h2 : l ≤ 2000) (h3 : 5 ≤ j) (h4 : j ≤ 50) (c1 : w.cell? ⟨b, o + 1, none⟩ = some (.int .i64 l)) (c2 : w.cell? ⟨b, o + 2, none⟩ = some (.int .i64 j)) :
    Calls Try.prog 66 #[.pointer (some ⟨b, o, none⟩)] w fun e w' => e = .returned (.int .i64 (jointsF l j)) ∧ ∃ n, w.drewN n = w' := by
  unfold jointsF
  go_enter Try.func66, Try.ntmps66
  go_wp2
  first
  | (go_ret; exact ⟨rfl, 0, rfl⟩)
  | (go_quiet (fail)
     go_wp2
     go_ret
     exact ⟨rfl, _, rfl⟩)
noncomputable def jointsOfF (s : ByteArray) (l j x : Int) : Int × Int := if ductB s l j x then (jointsF l j, 0) else (0, 1)
theorem JointsOf_i (s : ByteArray) (l j x : Int) (w : World) (hs : s.size ≤ maxLen) :
    Calls Try.prog 22 #[.agg #[.string s, .int .i64 l, .int .i64 j, .int .i64 x]] w fun e w' => e = .returned (.tuple #[.int .i64 (jointsOfF s l j x).1, .int .i64 (jointsOfF s l j x).2]) ∧ Below w.heap.size w w' := by
  unfold jointsOfF
  cases h0 : ductB s l j x
  · go_enter Try.func22, Try.ntmps22
    go_wp2_with fail
    refine (ValidDuct_i _ _ _ _ _ hs).mono ?_
    rintro e w1 ⟨rfl, hb1⟩
    obtain ⟨hc1, hf1⟩ := bcell hb1
    have q1_0 : w.heap.size < w1.heap.size := by have := hb1.size; simp at this; omega
    have be1 : Below w.heap.size w w1 := ((Below.refl w.heap.size w).alloc (by simp) _).trans (hb1.mono (by simp))
    have hbe := be1
    go_wp2_with fail
    go_ret2
    exact ⟨by simp, hbe⟩
  · obtain ⟨k1, k2, k3, k4, k5, k6⟩ := ductB_bd h0
    go_enter Try.func22, Try.ntmps22
    go_wp2_with fail
    refine (ValidDuct_i _ _ _ _ _ hs).mono ?_
    rintro e w1 ⟨rfl, hb1⟩
    obtain ⟨hc1, hf1⟩ := bcell hb1
    have q1_0 : w.heap.size < w1.heap.size := by have := hb1.size; simp at this; omega
    have be1 : Below w.heap.size w w1 := ((Below.refl w.heap.size w).alloc (by simp) _).trans (hb1.mono (by simp))
    go_wp2_with fail
    refine (joints_any _ _ _ _ _ k1 k2 k3 k4).mono ?_
    rintro e w2 ⟨rfl, hb2⟩
    obtain ⟨hc2, hf2⟩ := bcell hb2
    have q2_0 : w.heap.size < w2.heap.size := by have := hb2.size; omega
    have be2 : Below w.heap.size w w2 := be1.trans (hb2.mono (by omega))
    have hbe := be2
    go_wp2_with fail
    go_ret2
    exact ⟨by simp, hbe⟩
theorem JointsOf_s (s : ByteArray) (l j x : Int) (w : World) (hs : s.size ≤ maxLen) :
    Calls Try.prog 20 #[.agg #[.string s, .int .i64 l, .int .i64 j, .int .i64 x]] w fun e w' => e = .returned (.tuple #[.int .i64 (jointsOfF s l j x).1, .int .i64 (jointsOfF s l j x).2]) ∧ Below w.heap.size w w' := by
  unfold jointsOfF
  cases h0 : ductB s l j x
  · go_enter Try.func20, Try.ntmps20
    go_wp2_with (go_at_call 65; refine (l11Ok_any _ _ s l j x _ hs (by simp) (by simp) (by simp) (by simp)).mono ?_; rintro e w' ⟨rfl, _, rfl⟩)
    go_ret2
    exact ⟨by simp, below_drewN (by go_grown) _⟩
  · obtain ⟨k1, k2, k3, k4, k5, k6⟩ := ductB_bd h0
    go_enter Try.func20, Try.ntmps20
    go_wp2_with (first | (go_at_call 65; refine (l11Ok_any _ _ s l j x _ hs (by simp) (by simp) (by simp) (by simp)).mono ?_; rintro e w' ⟨rfl, _, rfl⟩) | (go_at_call 66; refine (l11Joints_any _ _ l j _ k1 k2 k3 k4 (by simp) (by simp)).mono ?_; rintro e w' ⟨rfl, _, rfl⟩))
    go_ret2
    exact ⟨by simp, below_drewN (by go_grown) _⟩
theorem fnExactJointsOf_walk (s : ByteArray) (hs : s.size ≤ maxLen) (l : Int) (_ : -9223372036854775808 ≤ l ∧ l ≤ 9223372036854775807) (j : Int) (_ : -9223372036854775808 ≤ j ∧ j ≤ 9223372036854775807) (x : Int) (_ : -9223372036854775808 ≤ x ∧ x ≤ 9223372036854775807) (w : World) :
    Calls Try.prog 5 #[.agg #[.string s, .int .i64 l, .int .i64 j, .int .i64 x]] w fun e w' => e = .returned (.bool true) ∧ Below w.heap.size w w' := by
  by_cases h : (s.size : Int) ≤ 1048576
  · go_enter Try.func5, Try.ntmps5
    go_wp2_with fail
    refine (szDuct_yes _ _ _ _ _ _ (by omega) h).mono ?_
    rintro e w1 ⟨rfl, hb1⟩
    obtain ⟨hc1, hf1⟩ := bcell hb1
    have q1_0 : w.heap.size < w1.heap.size := by have := hb1.size; simp at this; omega
    have be1 : Below w.heap.size w w1 := ((Below.refl w.heap.size w).alloc (by simp) _).trans (hb1.mono (by simp))
    go_wp2_with fail
    refine (toDuct_any _ _ _ _ _).mono ?_
    rintro e w2 ⟨rfl, hb2⟩
    obtain ⟨hc2, hf2⟩ := bcell hb2
    have q2_0 : w.heap.size < w2.heap.size := by have := hb2.size; omega
    have be2 : Below w.heap.size w w2 := be1.trans (hb2.mono (by omega))
    go_wp2_with fail
    refine (JointsOf_s _ _ _ _ _ hs).mono ?_
    rintro e w3 ⟨rfl, hb3⟩
    obtain ⟨hc3, hf3⟩ := bcell hb3
    have q3_0 : w.heap.size < w3.heap.size := by have := hb3.size; omega
    have be3 : Below w.heap.size w w3 := be2.trans (hb3.mono (by omega))
    go_wp2_with fail
    refine (toDuct_any _ _ _ _ _).mono ?_
    rintro e w4 ⟨rfl, hb4⟩
    obtain ⟨hc4, hf4⟩ := bcell hb4
    have q4_0 : w.heap.size < w4.heap.size := by have := hb4.size; omega
    have be4 : Below w.heap.size w w4 := be3.trans (hb4.mono (by omega))
    go_wp2_with fail
    refine (JointsOf_i _ _ _ _ _ hs).mono ?_
    rintro e w5 ⟨rfl, hb5⟩
    obtain ⟨hc5, hf5⟩ := bcell hb5
    have q5_0 : w.heap.size < w5.heap.size := by have := hb5.size; omega
    have be5 : Below w.heap.size w w5 := be4.trans (hb5.mono (by omega))
    have hbe := be5
    go_wp2_with fail
    go_ret
    exact ⟨rfl, hbe⟩
  · go_enter Try.func5, Try.ntmps5
    go_wp2_with fail
    refine (szDuct_no _ _ _ _ _ _ (by omega) (by omega) hs (by omega)).mono ?_
    rintro e w1 ⟨rfl, hb1⟩
    obtain ⟨hc1, hf1⟩ := bcell hb1
    have q1_0 : w.heap.size < w1.heap.size := by have := hb1.size; simp at this; omega
    have be1 : Below w.heap.size w w1 := ((Below.refl w.heap.size w).alloc (by simp) _).trans (hb1.mono (by simp))
    have hbe := be1
    go_wp2_with fail
    go_ret
    exact ⟨rfl, hbe⟩
end Go.Proofs.Ytnjplfcmojeedaa
