/- Gas in headings: its share, the most with at most a share, the time until it is reached; the program's and the reference's; and the walks of the laws. Conditions: the bounds that each theorem names. -/
import Derived.Test.YtnjplfcmojeedaaHead
import Derived.Test.YtnjplfcmojeedaaQuiet
import Derived.Lib.Hide
namespace Go.Proofs.Ytnjplfcmojeedaa
open Go.RowKit
open Pl
theorem headB_bd {s : ByteArray} {v r : Int} (h : headingB s v r = true) : 1 ≤ v ∧ v ≤ 100000 ∧ 0 ≤ r ∧ r ≤ 1000000 := by
  unfold headingB at h
  simp only [Bool.and_eq_true] at h
  obtain ⟨_, h1, h2⟩ := h
  have a := inB_iff.1 h1; have b := inB_iff.1 h2
  omega
/-- The code of a heading, gas, a flow and a share. -/
noncomputable def codeF (s : ByteArray) (v r g q h : Int) : Int := if headingB s v r then (if inB g 0 (v * 1000000) && (inB q 0 100000 && inB h 0 1000000) then 0 else 2) else 1
theorem code_any (s : ByteArray) (v r g q h : Int) (w : World) (hs : s.size ≤ maxLen) :
    Calls Try.prog 83 #[.agg #[.string s, .int .i64 v, .int .i64 r], .int .i64 g, .int .i64 q, .int .i64 h] w fun e w' => e = .returned (.int .i64 (codeF s v r g q h)) ∧ Below w.heap.size w w' := by
  unfold codeF
  cases h0 : headingB s v r
  · go_enter Try.func83, Try.ntmps83
    go_wp2_with fail
    refine (ValidHeading_i _ _ _ _ hs).mono ?_
    rintro e w1 ⟨rfl, hb1⟩
    obtain ⟨hc1, hf1⟩ := bcell hb1
    have q1_0 : w.heap.size < w1.heap.size := by have := hb1.size; simp at this; omega
    have be1 : Below w.heap.size w w1 := ((Below.refl w.heap.size w).alloc (by simp) _).trans (hb1.mono (by simp))
    have hbe := be1
    go_wp2_with fail
    go_ret
    exact ⟨by simp, hbe⟩
  · obtain ⟨k1, k2, k3, k4⟩ := headB_bd h0
    cases h1 : inB g 0 (v * 1000000)
    · go_enter Try.func83, Try.ntmps83
      go_wp2_with (go_at_call 57; refine (within_any _ _ _ _).mono ?_; rintro e w' ⟨rfl, rfl⟩)
      refine (ValidHeading_i _ _ _ _ hs).mono ?_
      rintro e w1 ⟨rfl, hb1⟩
      obtain ⟨hc1, hf1⟩ := bcell hb1
      have q1_0 : w.heap.size < w1.heap.size := by have := hb1.size; simp at this; omega
      have be1 : Below w.heap.size w w1 := ((Below.refl w.heap.size w).alloc (by simp) _).trans (hb1.mono (by simp))
      have hbe := be1
      go_wp2_with (go_at_call 57; refine (within_any _ _ _ _).mono ?_; rintro e w' ⟨rfl, rfl⟩)
      go_ret
      exact ⟨by simp, hbe⟩
    · cases h2 : inB q 0 100000
      · go_enter Try.func83, Try.ntmps83
        go_wp2_with (go_at_call 57; refine (within_any _ _ _ _).mono ?_; rintro e w' ⟨rfl, rfl⟩)
        refine (ValidHeading_i _ _ _ _ hs).mono ?_
        rintro e w1 ⟨rfl, hb1⟩
        obtain ⟨hc1, hf1⟩ := bcell hb1
        have q1_0 : w.heap.size < w1.heap.size := by have := hb1.size; simp at this; omega
        have be1 : Below w.heap.size w w1 := ((Below.refl w.heap.size w).alloc (by simp) _).trans (hb1.mono (by simp))
        have hbe := be1
        go_wp2_with (go_at_call 57; refine (within_any _ _ _ _).mono ?_; rintro e w' ⟨rfl, rfl⟩)
        go_ret
        exact ⟨by simp, hbe⟩
      · cases h3 : inB h 0 1000000
        · go_enter Try.func83, Try.ntmps83
          go_wp2_with (go_at_call 57; refine (within_any _ _ _ _).mono ?_; rintro e w' ⟨rfl, rfl⟩)
          refine (ValidHeading_i _ _ _ _ hs).mono ?_
          rintro e w1 ⟨rfl, hb1⟩
          obtain ⟨hc1, hf1⟩ := bcell hb1
          have q1_0 : w.heap.size < w1.heap.size := by have := hb1.size; simp at this; omega
          have be1 : Below w.heap.size w w1 := ((Below.refl w.heap.size w).alloc (by simp) _).trans (hb1.mono (by simp))
          have hbe := be1
          go_wp2_with (go_at_call 57; refine (within_any _ _ _ _).mono ?_; rintro e w' ⟨rfl, rfl⟩)
          go_ret
          exact ⟨by simp, hbe⟩
        · go_enter Try.func83, Try.ntmps83
          go_wp2_with (go_at_call 57; refine (within_any _ _ _ _).mono ?_; rintro e w' ⟨rfl, rfl⟩)
          refine (ValidHeading_i _ _ _ _ hs).mono ?_
          rintro e w1 ⟨rfl, hb1⟩
          obtain ⟨hc1, hf1⟩ := bcell hb1
          have q1_0 : w.heap.size < w1.heap.size := by have := hb1.size; simp at this; omega
          have be1 : Below w.heap.size w w1 := ((Below.refl w.heap.size w).alloc (by simp) _).trans (hb1.mono (by simp))
          have hbe := be1
          go_wp2_with (go_at_call 57; refine (within_any _ _ _ _).mono ?_; rintro e w' ⟨rfl, rfl⟩)
          go_ret
          exact ⟨by simp, hbe⟩
theorem l15All_any (b o : Nat) (v : Int) (w : World) (h1 : 1 ≤ v) (h2 : v ≤ 100000) (c1 : w.cell? ⟨b, o + 1, none⟩ = some (.int .i64 v)) :
    Calls Try.prog 114 #[.pointer (some ⟨b, o, none⟩)] w fun e w' => e = .returned (.int .i64 (v * 1000000)) ∧ w = w' := by
  go_enter Try.func114, Try.ntmps114
  go_wp2
  go_ret
  exact ⟨rfl, rfl⟩
theorem l15Gas_any (b o : Nat) (v g : Int) (w : World) (h1 : 1 ≤ v) (h2 : v ≤ 100000) (c1 : w.cell? ⟨b, o + 1, none⟩ = some (.int .i64 v)) :
    Calls Try.prog 82 #[.pointer (some ⟨b, o, none⟩), .int .i64 g] w fun e w' => e = .returned (.bool (inB g 0 (v * 1000000))) ∧ ∃ n, w.drewN n = w' := by
  go_enter Try.func82, Try.ntmps82
  go_wp2_with (first | (go_at_call 54; refine (l00In_any _ _ _ _).mono ?_; rintro e w' ⟨rfl, rfl⟩) | (go_at_call 114; refine (l15All_any _ _ v _ h1 h2 (by simp [*])).mono ?_; rintro e w' ⟨rfl, rfl⟩))
  go_ret
  exact ⟨rfl, 0, rfl⟩
noncomputable def gasShareF (s : ByteArray) (v r g : Int) : Int × Int := if headingB s v r then (if inB g 0 (v * 1000000) then (g / v, 0) else (0, 2)) else (0, 1)
theorem GasShare_i (s : ByteArray) (v r g : Int) (w : World) (hs : s.size ≤ maxLen) :
    Calls Try.prog 34 #[.agg #[.string s, .int .i64 v, .int .i64 r], .int .i64 g] w fun e w' => e = .returned (.tuple #[.int .i64 (gasShareF s v r g).1, .int .i64 (gasShareF s v r g).2]) ∧ Below w.heap.size w w' := by
  unfold gasShareF
  have HC := Lib.hid (fun W => code_any s v r g 0 0 W hs)
  cases h0 : headingB s v r
  · have e : codeF s v r g 0 0 = 1 := by unfold codeF; rw [h0]; rfl
    rw [e] at HC
    clear e
    go_enter Try.func34, Try.ntmps34
    go_wp2_with fail
    refine (HC.out _).mono ?_
    rintro e w1 ⟨rfl, hb1⟩
    obtain ⟨hc1, hf1⟩ := bcell hb1
    have q1_0 : w.heap.size < w1.heap.size := by have := hb1.size; simp at this; omega
    have be1 : Below w.heap.size w w1 := ((Below.refl w.heap.size w).alloc (by simp) _).trans (hb1.mono (by simp))
    have hbe := be1
    go_wp2_with fail
    go_ret2
    exact ⟨by simp, hbe⟩
  · obtain ⟨k1, k2, k3, k4⟩ := headB_bd h0
    cases h1 : inB g 0 (v * 1000000)
    · have e : codeF s v r g 0 0 = 2 := by unfold codeF; rw [h0, h1]; rfl
      rw [e] at HC
      clear e
      go_enter Try.func34, Try.ntmps34
      go_wp2_with fail
      refine (HC.out _).mono ?_
      rintro e w1 ⟨rfl, hb1⟩
      obtain ⟨hc1, hf1⟩ := bcell hb1
      have q1_0 : w.heap.size < w1.heap.size := by have := hb1.size; simp at this; omega
      have be1 : Below w.heap.size w w1 := ((Below.refl w.heap.size w).alloc (by simp) _).trans (hb1.mono (by simp))
      have hbe := be1
      go_wp2_with fail
      go_ret2
      exact ⟨by simp, hbe⟩
    · obtain ⟨g1, g2⟩ := inB_iff.1 h1
      have e : codeF s v r g 0 0 = 0 := by unfold codeF; rw [h0, h1]; rfl
      rw [e] at HC
      have d1 : 0 ≤ g / v := Int.ediv_nonneg (by omega) (by omega)
      have d2 : g / v ≤ g := Int.ediv_le_self _ (by omega)
      clear e
      go_enter Try.func34, Try.ntmps34
      go_wp2_with fail
      refine (HC.out _).mono ?_
      rintro e w1 ⟨rfl, hb1⟩
      obtain ⟨hc1, hf1⟩ := bcell hb1
      have q1_0 : w.heap.size < w1.heap.size := by have := hb1.size; simp at this; omega
      have be1 : Below w.heap.size w w1 := ((Below.refl w.heap.size w).alloc (by simp) _).trans (hb1.mono (by simp))
      have hbe := be1
      go_wp2_with fail
      go_ret2
      exact ⟨by simp, hbe⟩
theorem GasShare_s (s : ByteArray) (v r g : Int) (w : World) (hs : s.size ≤ maxLen) :
    Calls Try.prog 32 #[.agg #[.string s, .int .i64 v, .int .i64 r], .int .i64 g] w fun e w' => e = .returned (.tuple #[.int .i64 (gasShareF s v r g).1, .int .i64 (gasShareF s v r g).2]) ∧ Below w.heap.size w w' := by
  unfold gasShareF
  cases h0 : headingB s v r
  · go_enter Try.func32, Try.ntmps32
    go_wp2_with (go_at_call 81; refine (l15Ok_any _ _ s v r _ hs (by simp) (by simp) (by simp)).mono ?_; rintro e w' ⟨rfl, _, rfl⟩)
    go_ret2
    exact ⟨by simp, below_drewN (by go_grown) _⟩
  · obtain ⟨k1, k2, k3, k4⟩ := headB_bd h0
    cases h1 : inB g 0 (v * 1000000)
    · go_enter Try.func32, Try.ntmps32
      go_wp2_with (first | (go_at_call 81; refine (l15Ok_any _ _ s v r _ hs (by simp) (by simp) (by simp)).mono ?_; rintro e w' ⟨rfl, _, rfl⟩) | (go_at_call 82; refine (l15Gas_any _ _ v _ _ k1 k2 (by simp)).mono ?_; rintro e w' ⟨rfl, _, rfl⟩))
      go_ret2
      exact ⟨by simp, below_drewN (by go_grown) _⟩
    · obtain ⟨g1, g2⟩ := inB_iff.1 h1
      have d1 : 0 ≤ g / v := Int.ediv_nonneg (by omega) (by omega)
      have d2 : g / v ≤ g := Int.ediv_le_self _ (by omega)
      go_enter Try.func32, Try.ntmps32
      go_wp2_with (first | (go_at_call 81; refine (l15Ok_any _ _ s v r _ hs (by simp) (by simp) (by simp)).mono ?_; rintro e w' ⟨rfl, _, rfl⟩) | (go_at_call 82; refine (l15Gas_any _ _ v _ _ k1 k2 (by simp)).mono ?_; rintro e w' ⟨rfl, _, rfl⟩))
      go_ret2
      exact ⟨by simp, below_drewN (by go_grown) _⟩
theorem fnExactGasShare_walk (s : ByteArray) (hs : s.size ≤ maxLen) (v : Int) (_ : -9223372036854775808 ≤ v ∧ v ≤ 9223372036854775807) (r : Int) (_ : -9223372036854775808 ≤ r ∧ r ≤ 9223372036854775807) (a0 : Int) (_ : -9223372036854775808 ≤ a0 ∧ a0 ≤ 9223372036854775807) (w : World) :
    Calls Try.prog 9 #[.agg #[.string s, .int .i64 v, .int .i64 r], .int .i64 a0] w fun e w' => e = .returned (.bool true) ∧ Below w.heap.size w w' := by
  by_cases h : (s.size : Int) ≤ 1048576
  · go_enter Try.func9, Try.ntmps9
    go_wp2_with fail
    refine (szHeading_yes _ _ _ _ _ (by omega) h).mono ?_
    rintro e w1 ⟨rfl, hb1⟩
    obtain ⟨hc1, hf1⟩ := bcell hb1
    have q1_0 : w.heap.size < w1.heap.size := by have := hb1.size; simp at this; omega
    have be1 : Below w.heap.size w w1 := ((Below.refl w.heap.size w).alloc (by simp) _).trans (hb1.mono (by simp))
    go_wp2_with fail
    refine (toHeading_any _ _ _ _).mono ?_
    rintro e w2 ⟨rfl, hb2⟩
    obtain ⟨hc2, hf2⟩ := bcell hb2
    have q2_0 : w.heap.size < w2.heap.size := by have := hb2.size; omega
    have be2 : Below w.heap.size w w2 := be1.trans (hb2.mono (by omega))
    go_wp2_with fail
    refine (GasShare_s _ _ _ _ _ hs).mono ?_
    rintro e w3 ⟨rfl, hb3⟩
    obtain ⟨hc3, hf3⟩ := bcell hb3
    have q3_0 : w.heap.size < w3.heap.size := by have := hb3.size; omega
    have be3 : Below w.heap.size w w3 := be2.trans (hb3.mono (by omega))
    go_wp2_with fail
    refine (toHeading_any _ _ _ _).mono ?_
    rintro e w4 ⟨rfl, hb4⟩
    obtain ⟨hc4, hf4⟩ := bcell hb4
    have q4_0 : w.heap.size < w4.heap.size := by have := hb4.size; omega
    have be4 : Below w.heap.size w w4 := be3.trans (hb4.mono (by omega))
    go_wp2_with fail
    refine (GasShare_i _ _ _ _ _ hs).mono ?_
    rintro e w5 ⟨rfl, hb5⟩
    obtain ⟨hc5, hf5⟩ := bcell hb5
    have q5_0 : w.heap.size < w5.heap.size := by have := hb5.size; omega
    have be5 : Below w.heap.size w w5 := be4.trans (hb5.mono (by omega))
    have hbe := be5
    go_wp2_with fail
    go_ret
    exact ⟨rfl, hbe⟩
  · go_enter Try.func9, Try.ntmps9
    go_wp2_with fail
    refine (szHeading_no _ _ _ _ _ (by omega) (by omega) hs (by omega)).mono ?_
    rintro e w1 ⟨rfl, hb1⟩
    obtain ⟨hc1, hf1⟩ := bcell hb1
    have q1_0 : w.heap.size < w1.heap.size := by have := hb1.size; simp at this; omega
    have be1 : Below w.heap.size w w1 := ((Below.refl w.heap.size w).alloc (by simp) _).trans (hb1.mono (by simp))
    have hbe := be1
    go_wp2_with fail
    go_ret
    exact ⟨rfl, hbe⟩
end Go.Proofs.Ytnjplfcmojeedaa
