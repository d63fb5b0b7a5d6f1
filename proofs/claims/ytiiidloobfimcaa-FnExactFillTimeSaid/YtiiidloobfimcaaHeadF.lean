/- Gas in headings: its share, the most with at most a share, the time until it is reached; the program's and the reference's; and the walks of the laws. Conditions: the bounds that each theorem names. -/
import Derived.Test.YtiiidloobfimcaaHead
import Derived.Test.YtiiidloobfimcaaQuiet
import Derived.Lib.Hide
import Derived.Deep.RegionWith
import Derived.Outline
namespace Go.Proofs.Ytiiidloobfimcaa
open Go.RowKit
open Pl
theorem headB_bd {s : ByteArray} {v r : Int} (h : headingB s v r = true) : 1 ≤ v ∧ v ≤ 100000 ∧ 0 ≤ r ∧ r ≤ 1000000 := by
  unfold headingB at h
  simp only [Bool.and_eq_true] at h
  obtain ⟨_, h1, h2⟩ := h
  have a := inB_iff.1 h1; have b := inB_iff.1 h2
  omega
/-- The code of a heading, gas, a flow and a share. -/
noncomputable def codeF (s : ByteArray) (v r g q h : Int) : Int := if headingB s v r then (if inB g 0 (v * 1000000) && (inB q 0 100000 && inB h 0 1000000) then 0 else 2) else 1
theorem code_any (s : ByteArray) (v r g q h : Int) (w : World) (hs : s.size ≤ maxLen) :
    Calls Try.prog 53 #[.agg #[.string s, .int .i64 v, .int .i64 r], .int .i64 g, .int .i64 q, .int .i64 h] w fun e w' => e = .returned (.int .i64 (codeF s v r g q h)) ∧ Below w.heap.size w w' := by
  unfold codeF
  cases h0 : headingB s v r
  · go_enter Try.func53, Try.ntmps53
    go_wp2_with fail
    refine (ValidHeading_i _ _ _ _ hs).mono ?_
    rintro e w1 ⟨rfl, hb1⟩
    obtain ⟨hc1, hf1⟩ := bcell hb1
    have q1_0 : w.heap.size < w1.heap.size := by have := hb1.size; simp at this; omega
    have be1 : Below w.heap.size w w1 := ((Below.refl w.heap.size w).alloc (by simp) _).trans (hb1.mono (by simp))
    have hbe := be1
    go_wp2_with fail
    go_ret
    exact ⟨by simp, hbe⟩
  · obtain ⟨k1, k2, k3, k4⟩ := headB_bd h0
    cases h1 : inB g 0 (v * 1000000)
    · go_enter Try.func53, Try.ntmps53
      go_wp2_with (go_at_call 60; refine (within_any _ _ _ _).mono ?_; rintro e w' ⟨rfl, rfl⟩)
      refine (ValidHeading_i _ _ _ _ hs).mono ?_
      rintro e w1 ⟨rfl, hb1⟩
      obtain ⟨hc1, hf1⟩ := bcell hb1
      have q1_0 : w.heap.size < w1.heap.size := by have := hb1.size; simp at this; omega
      have be1 : Below w.heap.size w w1 := ((Below.refl w.heap.size w).alloc (by simp) _).trans (hb1.mono (by simp))
      have hbe := be1
      go_wp2_with (go_at_call 60; refine (within_any _ _ _ _).mono ?_; rintro e w' ⟨rfl, rfl⟩)
      go_ret
      exact ⟨by simp, hbe⟩
    · cases h2 : inB q 0 100000
      · go_enter Try.func53, Try.ntmps53
        go_wp2_with (go_at_call 60; refine (within_any _ _ _ _).mono ?_; rintro e w' ⟨rfl, rfl⟩)
        refine (ValidHeading_i _ _ _ _ hs).mono ?_
        rintro e w1 ⟨rfl, hb1⟩
        obtain ⟨hc1, hf1⟩ := bcell hb1
        have q1_0 : w.heap.size < w1.heap.size := by have := hb1.size; simp at this; omega
        have be1 : Below w.heap.size w w1 := ((Below.refl w.heap.size w).alloc (by simp) _).trans (hb1.mono (by simp))
        have hbe := be1
        go_wp2_with (go_at_call 60; refine (within_any _ _ _ _).mono ?_; rintro e w' ⟨rfl, rfl⟩)
        go_ret
        exact ⟨by simp, hbe⟩
      · cases h3 : inB h 0 1000000
        · go_enter Try.func53, Try.ntmps53
          go_wp2_with (go_at_call 60; refine (within_any _ _ _ _).mono ?_; rintro e w' ⟨rfl, rfl⟩)
          refine (ValidHeading_i _ _ _ _ hs).mono ?_
          rintro e w1 ⟨rfl, hb1⟩
          obtain ⟨hc1, hf1⟩ := bcell hb1
          have q1_0 : w.heap.size < w1.heap.size := by have := hb1.size; simp at this; omega
          have be1 : Below w.heap.size w w1 := ((Below.refl w.heap.size w).alloc (by simp) _).trans (hb1.mono (by simp))
          have hbe := be1
          go_wp2_with (go_at_call 60; refine (within_any _ _ _ _).mono ?_; rintro e w' ⟨rfl, rfl⟩)
          go_ret
          exact ⟨by simp, hbe⟩
        · go_enter Try.func53, Try.ntmps53
          go_wp2_with (go_at_call 60; refine (within_any _ _ _ _).mono ?_; rintro e w' ⟨rfl, rfl⟩)
          refine (ValidHeading_i _ _ _ _ hs).mono ?_
          rintro e w1 ⟨rfl, hb1⟩
          obtain ⟨hc1, hf1⟩ := bcell hb1
          have q1_0 : w.heap.size < w1.heap.size := by have := hb1.size; simp at this; omega
          have be1 : Below w.heap.size w w1 := ((Below.refl w.heap.size w).alloc (by simp) _).trans (hb1.mono (by simp))
          have hbe := be1
          go_wp2_with (go_at_call 60; refine (within_any _ _ _ _).mono ?_; rintro e w' ⟨rfl, rfl⟩)
          go_ret
          exact ⟨by simp, hbe⟩
theorem l15All_any (b o : Nat) (v : Int) (w : World) (h1 : 1 ≤ v) (h2 : v ≤ 100000) (c1 : w.cell? ⟨b, o + 1, none⟩ = some (.int .i64 v)) :
    Calls Try.prog 101 #[.pointer (some ⟨b, o, none⟩)] w fun e w' => e = .returned (.int .i64 (v * 1000000)) ∧ w = w' := by
  go_enter Try.func101, Try.ntmps101
  go_wp2
  go_ret
  exact ⟨rfl, rfl⟩
/-- The most gas with at most a share. -/
def gasForF (v h : Int) : Int := mn (v * 1000000) ((h + 1) * v - 1)
theorem gasFor_bd {v h : Int} (h1 : 1 ≤ v) (h2 : v ≤ 100000) (h3 : 0 ≤ h) (h4 : h ≤ 1000000) : v - 1 ≤ (h + 1) * v - 1 ∧ (h + 1) * v - 1 ≤ 100000100000 ∧ 0 ≤ gasForF v h ∧ gasForF v h ≤ 100000000000 := by
  have m1 := mul_le (a := h + 1) (b := v) (A := 1000001) (B := 100000) (by omega) (by omega) (by omega) h2
  have m2 : 1 * v ≤ (h + 1) * v := Int.mul_le_mul_of_nonneg_right (by omega) (by omega)
  refine ⟨by omega, by omega, ?_⟩
  unfold gasForF
  rcases mn_or (v * 1000000) ((h + 1) * v - 1) with e | e
  · rw [e]; omega
  · have := mn_le_left (v * 1000000) ((h + 1) * v - 1)
    rw [e] at this ⊢; omega
theorem gasFor_ex (s : ByteArray) (v r h : Int) (w : World) (h1 : 1 ≤ v) (h2 : v ≤ 100000) (h3 : 0 ≤ h) (h4 : h ≤ 1000000) :
    Calls Try.prog 54 #[.agg #[.string s, .int .i64 v, .int .i64 r], .int .i64 h] w fun e w' => e = .returned (.int .i64 (gasForF v h)) ∧ w.alloc (.cells #[.string s, .int .i64 v, .int .i64 r] 27) = w' := by
  obtain ⟨m1, m2, _, _⟩ := gasFor_bd h1 h2 h3 h4
  by_cases hc : v * 1000000 ≤ (h + 1) * v - 1
  · have e : gasForF v h = v * 1000000 := by unfold gasForF; rw [mn_eq_left hc]
    rw [e]
    clear e
    go_enter Try.func54, Try.ntmps54
    go_wp2
    go_ret
    exact ⟨ret_int (by omega), rfl⟩
  · have e : gasForF v h = (h + 1) * v - 1 := by unfold gasForF; rw [mn_eq_right (by omega)]
    rw [e]
    clear e
    go_enter Try.func54, Try.ntmps54
    go_wp2
    go_ret
    exact ⟨ret_int (by omega), rfl⟩
theorem gasFor_any (s : ByteArray) (v r h : Int) (w : World) (h1 : 1 ≤ v) (h2 : v ≤ 100000) (h3 : 0 ≤ h) (h4 : h ≤ 1000000) :
    Calls Try.prog 54 #[.agg #[.string s, .int .i64 v, .int .i64 r], .int .i64 h] w fun e w' => e = .returned (.int .i64 (gasForF v h)) ∧ Below w.heap.size w w' := by
  refine (gasFor_ex s v r h w h1 h2 h3 h4).mono ?_
  rintro e w' ⟨he, rfl⟩
  exact ⟨he, by go_grown⟩
theorem l15Most_any (b o : Nat) (v h : Int) (w : World) (h1 : 1 ≤ v) (h2 : v ≤ 100000) (h3 : 0 ≤ h) (h4 : h ≤ 1000000) (c1 : w.cell? ⟨b, o + 1, none⟩ = some (.int .i64 v)) :
    Calls Try.prog 52 #[.pointer (some ⟨b, o, none⟩), .int .i64 h] w fun e w' => e = .returned (.int .i64 (gasForF v h)) ∧ ∃ n, w.drewN n = w' := by
  obtain ⟨m1, m2, _, _⟩ := gasFor_bd h1 h2 h3 h4
  unfold gasForF
  go_enter Try.func52, Try.ntmps52
  go_wp2_with (first | (go_at_call 101; refine (l15All_any _ _ v _ h1 h2 (by simp [*])).mono ?_; rintro e w' ⟨rfl, rfl⟩) | (go_at_call 98; refine (l00Min_any _ _ _).mono ?_; rintro e w' ⟨rfl, rfl⟩))
  first
  | (go_ret; exact ⟨rfl, 0, rfl⟩)
  | (go_quiet (first | (go_at_call 101; first | exact quiet_s (l15All_any _ _ v _ h1 h2 (by simp [*])) | exact quiet_s2 (l15All_any _ _ v _ h1 h2 (by simp [*]))) | (go_at_call 98; first | exact quiet_s (l00Min_any _ _ _) | exact quiet_s2 (l00Min_any _ _ _)))
     go_wp2
     go_ret
     exact ⟨rfl, _, rfl⟩)
noncomputable def gasForFF (s : ByteArray) (v r h : Int) : Int × Int := if headingB s v r then (if inB h 0 1000000 then (gasForF v h, 0) else (0, 2)) else (0, 1)
theorem GasFor_i (s : ByteArray) (v r h : Int) (w : World) (hs : s.size ≤ maxLen) :
    Calls Try.prog 18 #[.agg #[.string s, .int .i64 v, .int .i64 r], .int .i64 h] w fun e w' => e = .returned (.tuple #[.int .i64 (gasForFF s v r h).1, .int .i64 (gasForFF s v r h).2]) ∧ Below w.heap.size w w' := by
  unfold gasForFF
  have HC := Lib.hid (fun W => code_any s v r 0 0 h W hs)
  cases h0 : headingB s v r
  · have e : codeF s v r 0 0 h = 1 := by unfold codeF; rw [h0]; rfl
    rw [e] at HC
    clear e
    go_enter Try.func18, Try.ntmps18
    go_wp2_with fail
    refine (HC.out _).mono ?_
    rintro e w1 ⟨rfl, hb1⟩
    obtain ⟨hc1, hf1⟩ := bcell hb1
    have q1_0 : w.heap.size < w1.heap.size := by have := hb1.size; simp at this; omega
    have be1 : Below w.heap.size w w1 := ((Below.refl w.heap.size w).alloc (by simp) _).trans (hb1.mono (by simp))
    have hbe := be1
    go_wp2_with fail
    go_ret2
    exact ⟨by simp, hbe⟩
  · obtain ⟨k1, k2, k3, k4⟩ := headB_bd h0
    have e0 : inB 0 0 (v * 1000000) = true := inB_mk (by omega)
    cases h1 : inB h 0 1000000
    · have e : codeF s v r 0 0 h = 2 := by unfold codeF; rw [h0, e0, h1]; rfl
      rw [e] at HC
      clear e
      go_enter Try.func18, Try.ntmps18
      go_wp2_with fail
      refine (HC.out _).mono ?_
      rintro e w1 ⟨rfl, hb1⟩
      obtain ⟨hc1, hf1⟩ := bcell hb1
      have q1_0 : w.heap.size < w1.heap.size := by have := hb1.size; simp at this; omega
      have be1 : Below w.heap.size w w1 := ((Below.refl w.heap.size w).alloc (by simp) _).trans (hb1.mono (by simp))
      have hbe := be1
      go_wp2_with fail
      go_ret2
      exact ⟨by simp, hbe⟩
    · obtain ⟨g1, g2⟩ := inB_iff.1 h1
      have e : codeF s v r 0 0 h = 0 := by unfold codeF; rw [h0, e0, h1]; rfl
      rw [e] at HC
      clear e
      go_enter Try.func18, Try.ntmps18
      go_wp2_with fail
      refine (HC.out _).mono ?_
      rintro e w1 ⟨rfl, hb1⟩
      obtain ⟨hc1, hf1⟩ := bcell hb1
      have q1_0 : w.heap.size < w1.heap.size := by have := hb1.size; simp at this; omega
      have be1 : Below w.heap.size w w1 := ((Below.refl w.heap.size w).alloc (by simp) _).trans (hb1.mono (by simp))
      go_wp2_with fail
      refine (gasFor_any _ _ _ _ _ k1 k2 g1 g2).mono ?_
      rintro e w2 ⟨rfl, hb2⟩
      obtain ⟨hc2, hf2⟩ := bcell hb2
      have q2_0 : w.heap.size < w2.heap.size := by have := hb2.size; omega
      have be2 : Below w.heap.size w w2 := be1.trans (hb2.mono (by omega))
      have hbe := be2
      go_wp2_with fail
      go_ret2
      exact ⟨by simp, hbe⟩
theorem GasFor_s (s : ByteArray) (v r h : Int) (w : World) (hs : s.size ≤ maxLen) :
    Calls Try.prog 16 #[.agg #[.string s, .int .i64 v, .int .i64 r], .int .i64 h] w fun e w' => e = .returned (.tuple #[.int .i64 (gasForFF s v r h).1, .int .i64 (gasForFF s v r h).2]) ∧ Below w.heap.size w w' := by
  unfold gasForFF
  cases h0 : headingB s v r
  · go_enter Try.func16, Try.ntmps16
    go_wp2_with (go_at_call 50; refine (l15Ok_any _ _ s v r _ hs (by simp) (by simp) (by simp)).mono ?_; rintro e w' ⟨rfl, _, rfl⟩)
    go_ret2
    exact ⟨by simp, below_drewN (by go_grown) _⟩
  · obtain ⟨k1, k2, k3, k4⟩ := headB_bd h0
    cases h1 : inB h 0 1000000
    · go_enter Try.func16, Try.ntmps16
      go_wp2_with (first | (go_at_call 50; refine (l15Ok_any _ _ s v r _ hs (by simp) (by simp) (by simp)).mono ?_; rintro e w' ⟨rfl, _, rfl⟩) | (go_at_call 51; refine (l15Share_any _ _).mono ?_; rintro e w' ⟨rfl, rfl⟩))
      go_ret2
      exact ⟨by simp, below_drewN (by go_grown) _⟩
    · obtain ⟨g1, g2⟩ := inB_iff.1 h1
      go_enter Try.func16, Try.ntmps16
      go_wp2_with (first | (go_at_call 50; refine (l15Ok_any _ _ s v r _ hs (by simp) (by simp) (by simp)).mono ?_; rintro e w' ⟨rfl, _, rfl⟩) | (go_at_call 51; refine (l15Share_any _ _).mono ?_; rintro e w' ⟨rfl, rfl⟩) | (go_at_call 52; refine (l15Most_any _ _ v _ _ k1 k2 g1 g2 (by simp)).mono ?_; rintro e w' ⟨rfl, _, rfl⟩))
      go_ret2
      exact ⟨by simp, below_drewN (by go_grown) _⟩
noncomputable def fillF (s : ByteArray) (v r h : Int) : Int × Int := if headingB s v r then (if inB h 0 1000000 then (if r = 0 ∨ h = 1000000 then (0, 6) else (gasForF v h / r, 0)) else (0, 2)) else (0, 1)
set_option maxHeartbeats 3200000 in
theorem FillTime_i (s : ByteArray) (v r h : Int) (w : World) (hs : s.size ≤ maxLen) :
    Calls Try.prog 20 #[.agg #[.string s, .int .i64 v, .int .i64 r], .int .i64 h] w fun e w' => e = .returned (.tuple #[.int .i64 (fillF s v r h).1, .int .i64 (fillF s v r h).2]) ∧ Below w.heap.size w w' := by
  unfold fillF
  have HC := Lib.hid (fun W => code_any s v r 0 0 h W hs)
  cases h0 : headingB s v r
  · have e : codeF s v r 0 0 h = 1 := by unfold codeF; rw [h0]; rfl
    rw [e] at HC
    clear e
    go_enter Try.func20, Try.ntmps20
    go_wp2_with fail
    refine (HC.out _).mono ?_
    rintro e w1 ⟨rfl, hb1⟩
    obtain ⟨hc1, hf1⟩ := bcell hb1
    have q1_0 : w.heap.size < w1.heap.size := by have := hb1.size; simp at this; omega
    have be1 : Below w.heap.size w w1 := ((Below.refl w.heap.size w).alloc (by simp) _).trans (hb1.mono (by simp))
    have hbe := be1
    go_wp2_with fail
    go_ret2
    exact ⟨by simp, hbe⟩
  · obtain ⟨k1, k2, k3, k4⟩ := headB_bd h0
    have e0 : inB 0 0 (v * 1000000) = true := inB_mk (by omega)
    cases h1 : inB h 0 1000000
    · have e : codeF s v r 0 0 h = 2 := by unfold codeF; rw [h0, e0, h1]; rfl
      rw [e] at HC
      clear e
      go_enter Try.func20, Try.ntmps20
      go_wp2_with fail
      refine (HC.out _).mono ?_
      rintro e w1 ⟨rfl, hb1⟩
      obtain ⟨hc1, hf1⟩ := bcell hb1
      have q1_0 : w.heap.size < w1.heap.size := by have := hb1.size; simp at this; omega
      have be1 : Below w.heap.size w w1 := ((Below.refl w.heap.size w).alloc (by simp) _).trans (hb1.mono (by simp))
      have hbe := be1
      go_wp2_with fail
      go_ret2
      exact ⟨by simp, hbe⟩
    · obtain ⟨g1, g2⟩ := inB_iff.1 h1
      have e : codeF s v r 0 0 h = 0 := by unfold codeF; rw [h0, e0, h1]; rfl
      rw [e] at HC
      clear e
      by_cases hr : r = 0
      · subst hr
        go_enter Try.func20, Try.ntmps20
        go_wp2_with fail
        refine (HC.out _).mono ?_
        rintro e w1 ⟨rfl, hb1⟩
        obtain ⟨hc1, hf1⟩ := bcell hb1
        have q1_0 : w.heap.size < w1.heap.size := by have := hb1.size; simp at this; omega
        have be1 : Below w.heap.size w w1 := ((Below.refl w.heap.size w).alloc (by simp) _).trans (hb1.mono (by simp))
        have hbe := be1
        go_wp2_with fail
        go_ret2
        exact ⟨by simp, hbe⟩
      · have hr' : (r == 0) = false := by simp [hr]
        by_cases hh : h = 1000000
        · subst hh
          clear hr
          go_enter Try.func20, Try.ntmps20
          go_wp2_with fail
          refine (HC.out _).mono ?_
          rintro e w1 ⟨rfl, hb1⟩
          obtain ⟨hc1, hf1⟩ := bcell hb1
          have q1_0 : w.heap.size < w1.heap.size := by have := hb1.size; simp at this; omega
          have be1 : Below w.heap.size w w1 := ((Below.refl w.heap.size w).alloc (by simp) _).trans (hb1.mono (by simp))
          have hbe := be1
          go_wp2_with fail
          go_ret2
          exact ⟨by simp, hbe⟩
        · have hh' : (h == 1000000) = false := by simp [hh]
          have ef : (if r = 0 ∨ h = 1000000 then ((0, 6) : Int × Int) else (gasForF v h / r, 0)) = (gasForF v h / r, 0) := by rw [if_neg (by omega)]
          rw [ef]
          have hr1 : 1 ≤ r := by omega
          obtain ⟨_, _, m3, m4⟩ := gasFor_bd k1 k2 g1 g2
          clear hr hh ef
          go_enter Try.func20, Try.ntmps20
          go_wp2_with fail
          refine (HC.out _).mono ?_
          rintro e w1 ⟨rfl, hb1⟩
          obtain ⟨hc1, hf1⟩ := bcell hb1
          have q1_0 : w.heap.size < w1.heap.size := by have := hb1.size; simp at this; omega
          have be1 : Below w.heap.size w w1 := ((Below.refl w.heap.size w).alloc (by simp) _).trans (hb1.mono (by simp))
          have hbe := be1
          go_wp2_with fail
          go_region_with (go_at_call 54; refine (gasFor_ex _ _ _ _ _ k1 k2 g1 g2).mono ?_; rintro e w' ⟨rfl, rfl⟩)
          all_goals go_wp2
          all_goals go_ret2
          all_goals refine ⟨by simp, ?_⟩
          all_goals repeat' (first | exact hbe | refine below_drewN ?_ _ | refine Below.drew ?_ | refine Below.alloc ?_ ?_ _ | (simp; omega) | omega)
theorem FillTime_s (s : ByteArray) (v r h : Int) (w : World) (hs : s.size ≤ maxLen) :
    Calls Try.prog 19 #[.agg #[.string s, .int .i64 v, .int .i64 r], .int .i64 h] w fun e w' => e = .returned (.tuple #[.int .i64 (fillF s v r h).1, .int .i64 (fillF s v r h).2]) ∧ Below w.heap.size w w' := by
  unfold fillF
  cases h0 : headingB s v r
  · go_enter Try.func19, Try.ntmps19
    go_wp2_with (go_at_call 50; refine (l15Ok_any _ _ s v r _ hs (by simp) (by simp) (by simp)).mono ?_; rintro e w' ⟨rfl, _, rfl⟩)
    go_ret2
    exact ⟨by simp, below_drewN (by go_grown) _⟩
  · obtain ⟨k1, k2, k3, k4⟩ := headB_bd h0
    cases h1 : inB h 0 1000000
    · go_enter Try.func19, Try.ntmps19
      go_wp2_with (first | (go_at_call 50; refine (l15Ok_any _ _ s v r _ hs (by simp) (by simp) (by simp)).mono ?_; rintro e w' ⟨rfl, _, rfl⟩) | (go_at_call 51; refine (l15Share_any _ _).mono ?_; rintro e w' ⟨rfl, rfl⟩))
      go_ret2
      exact ⟨by simp, below_drewN (by go_grown) _⟩
    · obtain ⟨g1, g2⟩ := inB_iff.1 h1
      by_cases hr : r = 0
      · subst hr
        go_enter Try.func19, Try.ntmps19
        go_wp2_with (first | (go_at_call 50; refine (l15Ok_any _ _ s v 0 _ hs (by simp) (by simp) (by simp)).mono ?_; rintro e w' ⟨rfl, _, rfl⟩) | (go_at_call 51; refine (l15Share_any _ _).mono ?_; rintro e w' ⟨rfl, rfl⟩))
        go_ret2
        exact ⟨by simp, below_drewN (by go_grown) _⟩
      · have hr' : (r == 0) = false := by simp [hr]
        by_cases hh : h = 1000000
        · subst hh
          clear hr
          go_enter Try.func19, Try.ntmps19
          go_wp2_with (first | (go_at_call 50; refine (l15Ok_any _ _ s v r _ hs (by simp) (by simp) (by simp)).mono ?_; rintro e w' ⟨rfl, _, rfl⟩) | (go_at_call 51; refine (l15Share_any _ _).mono ?_; rintro e w' ⟨rfl, rfl⟩))
          go_ret2
          exact ⟨by simp, below_drewN (by go_grown) _⟩
        · have hh' : (h == 1000000) = false := by simp [hh]
          have ef : (if r = 0 ∨ h = 1000000 then ((0, 6) : Int × Int) else (gasForF v h / r, 0)) = (gasForF v h / r, 0) := by rw [if_neg (by omega)]
          rw [ef]
          have hr1 : 1 ≤ r := by omega
          obtain ⟨_, _, m3, m4⟩ := gasFor_bd k1 k2 g1 g2
          clear hr hh ef
          go_enter Try.func19, Try.ntmps19
          go_wp2_with (first | (go_at_call 50; refine (l15Ok_any _ _ s v r _ hs (by simp) (by simp) (by simp)).mono ?_; rintro e w' ⟨rfl, _, rfl⟩) | (go_at_call 51; refine (l15Share_any _ _).mono ?_; rintro e w' ⟨rfl, rfl⟩) | (go_at_call 52; refine (l15Most_any _ _ v _ _ k1 k2 g1 g2 (by simp)).mono ?_; rintro e w' ⟨rfl, _, rfl⟩))
          first
          | (go_ret2; exact ⟨by simp, below_drewN (by go_grown) _⟩)
          | (go_quiet ((go_at_call 52; first | exact quiet_d (l15Most_any _ _ v _ _ k1 k2 g1 g2 (by simp)) | exact quiet_d2 (l15Most_any _ _ v _ _ k1 k2 g1 g2 (by simp))))
             go_wp2
             go_ret2
             exact ⟨by simp, below_drewN (by go_grown) _⟩)
theorem fnExactGasFor_walk (s : ByteArray) (hs : s.size ≤ maxLen) (v : Int) (_ : -9223372036854775808 ≤ v ∧ v ≤ 9223372036854775807) (r : Int) (_ : -9223372036854775808 ≤ r ∧ r ≤ 9223372036854775807) (a0 : Int) (_ : -9223372036854775808 ≤ a0 ∧ a0 ≤ 9223372036854775807) (w : World) :
    Calls Try.prog 3 #[.agg #[.string s, .int .i64 v, .int .i64 r], .int .i64 a0] w fun e w' => e = .returned (.bool true) ∧ Below w.heap.size w w' := by
  by_cases h : (s.size : Int) ≤ 1048576
  · go_enter Try.func3, Try.ntmps3
    go_wp2_with fail
    refine (szHeading_yes _ _ _ _ _ (by omega) h).mono ?_
    rintro e w1 ⟨rfl, hb1⟩
    obtain ⟨hc1, hf1⟩ := bcell hb1
    have q1_0 : w.heap.size < w1.heap.size := by have := hb1.size; simp at this; omega
    have be1 : Below w.heap.size w w1 := ((Below.refl w.heap.size w).alloc (by simp) _).trans (hb1.mono (by simp))
    go_wp2_with fail
    refine (toHeading_any _ _ _ _).mono ?_
    rintro e w2 ⟨rfl, hb2⟩
    obtain ⟨hc2, hf2⟩ := bcell hb2
    have q2_0 : w.heap.size < w2.heap.size := by have := hb2.size; omega
    have be2 : Below w.heap.size w w2 := be1.trans (hb2.mono (by omega))
    go_wp2_with fail
    refine (GasFor_s _ _ _ _ _ hs).mono ?_
    rintro e w3 ⟨rfl, hb3⟩
    obtain ⟨hc3, hf3⟩ := bcell hb3
    have q3_0 : w.heap.size < w3.heap.size := by have := hb3.size; omega
    have be3 : Below w.heap.size w w3 := be2.trans (hb3.mono (by omega))
    go_wp2_with fail
    refine (toHeading_any _ _ _ _).mono ?_
    rintro e w4 ⟨rfl, hb4⟩
    obtain ⟨hc4, hf4⟩ := bcell hb4
    have q4_0 : w.heap.size < w4.heap.size := by have := hb4.size; omega
    have be4 : Below w.heap.size w w4 := be3.trans (hb4.mono (by omega))
    go_wp2_with fail
    refine (GasFor_i _ _ _ _ _ hs).mono ?_
    rintro e w5 ⟨rfl, hb5⟩
    obtain ⟨hc5, hf5⟩ := bcell hb5
    have q5_0 : w.heap.size < w5.heap.size := by have := hb5.size; omega
    have be5 : Below w.heap.size w w5 := be4.trans (hb5.mono (by omega))
    have hbe := be5
    go_wp2_with fail
    go_ret
    exact ⟨rfl, hbe⟩
  · go_enter Try.func3, Try.ntmps3
    go_wp2_with fail
    refine (szHeading_no _ _ _ _ _ (by omega) (by omega) hs (by omega)).mono ?_
    rintro e w1 ⟨rfl, hb1⟩
    obtain ⟨hc1, hf1⟩ := bcell hb1
    have q1_0 : w.heap.size < w1.heap.size := by have := hb1.size; simp at this; omega
    have be1 : Below w.heap.size w w1 := ((Below.refl w.heap.size w).alloc (by simp) _).trans (hb1.mono (by simp))
    have hbe := be1
    go_wp2_with fail
    go_ret
    exact ⟨rfl, hbe⟩
theorem fnExactFillTime_walk (s : ByteArray) (hs : s.size ≤ maxLen) (v : Int) (_ : -9223372036854775808 ≤ v ∧ v ≤ 9223372036854775807) (r : Int) (_ : -9223372036854775808 ≤ r ∧ r ≤ 9223372036854775807) (a0 : Int) (_ : -9223372036854775808 ≤ a0 ∧ a0 ≤ 9223372036854775807) (w : World) :
    Calls Try.prog 4 #[.agg #[.string s, .int .i64 v, .int .i64 r], .int .i64 a0] w fun e w' => e = .returned (.bool true) ∧ Below w.heap.size w w' := by
  by_cases h : (s.size : Int) ≤ 1048576
  · go_enter Try.func4, Try.ntmps4
    go_wp2_with fail
    refine (szHeading_yes _ _ _ _ _ (by omega) h).mono ?_
    rintro e w1 ⟨rfl, hb1⟩
    obtain ⟨hc1, hf1⟩ := bcell hb1
    have q1_0 : w.heap.size < w1.heap.size := by have := hb1.size; simp at this; omega
    have be1 : Below w.heap.size w w1 := ((Below.refl w.heap.size w).alloc (by simp) _).trans (hb1.mono (by simp))
    go_wp2_with fail
    refine (toHeading_any _ _ _ _).mono ?_
    rintro e w2 ⟨rfl, hb2⟩
    obtain ⟨hc2, hf2⟩ := bcell hb2
    have q2_0 : w.heap.size < w2.heap.size := by have := hb2.size; omega
    have be2 : Below w.heap.size w w2 := be1.trans (hb2.mono (by omega))
    go_wp2_with fail
    refine (FillTime_s _ _ _ _ _ hs).mono ?_
    rintro e w3 ⟨rfl, hb3⟩
    obtain ⟨hc3, hf3⟩ := bcell hb3
    have q3_0 : w.heap.size < w3.heap.size := by have := hb3.size; omega
    have be3 : Below w.heap.size w w3 := be2.trans (hb3.mono (by omega))
    go_wp2_with fail
    refine (toHeading_any _ _ _ _).mono ?_
    rintro e w4 ⟨rfl, hb4⟩
    obtain ⟨hc4, hf4⟩ := bcell hb4
    have q4_0 : w.heap.size < w4.heap.size := by have := hb4.size; omega
    have be4 : Below w.heap.size w w4 := be3.trans (hb4.mono (by omega))
    go_wp2_with fail
    refine (FillTime_i _ _ _ _ _ hs).mono ?_
    rintro e w5 ⟨rfl, hb5⟩
    obtain ⟨hc5, hf5⟩ := bcell hb5
    have q5_0 : w.heap.size < w5.heap.size := by have := hb5.size; omega
    have be5 : Below w.heap.size w w5 := be4.trans (hb5.mono (by omega))
    have hbe := be5
    go_wp2_with fail
    go_ret
    exact ⟨rfl, hbe⟩
  · go_enter Try.func4, Try.ntmps4
    go_wp2_with fail
    refine (szHeading_no _ _ _ _ _ (by omega) (by omega) hs (by omega)).mono ?_
    rintro e w1 ⟨rfl, hb1⟩
    obtain ⟨hc1, hf1⟩ := bcell hb1
    have q1_0 : w.heap.size < w1.heap.size := by have := hb1.size; simp at this; omega
    have be1 : Below w.heap.size w w1 := ((Below.refl w.heap.size w).alloc (by simp) _).trans (hb1.mono (by simp))
    have hbe := be1
    go_wp2_with fail
    go_ret
    exact ⟨rfl, hbe⟩
end Go.Proofs.Ytiiidloobfimcaa
