/- The least flow with at most a share of gas: the program halves, the reference reckons; and the walk of the law. Conditions: the bounds that each theorem names. -/
import Derived.Test.YtnjplfcmojeedaaBase
import Derived.Test.YtnjplfcmojeedaaGa
import Derived.Test.YtnjplfcmojeedaaHof
import Derived.Lib.Hide
namespace Go.Proofs.Ytnjplfcmojeedaa
open Go.RowKit
open Pl
theorem ceil_le {a b c : Int} (hb : 1 ≤ b) : (a + b - 1) / b ≤ c ↔ a ≤ c * b := by
  have h : (a + b - 1) / b < c + 1 ↔ a + b - 1 < (c + 1) * b := Int.ediv_lt_iff_lt_mul (by omega)
  rw [Int.add_mul, Int.one_mul] at h
  omega
def diluteQ (r s : Int) : Int := if s = 1000000 then 1 else mx 1 ((100 * r + s - 1) / s)
theorem dilute_law {r s q : Int} (hq : 1 ≤ q) (hs : 1 ≤ s) : shareF r q ≤ s ↔ (s = 1000000 ∨ 1000000 < s ∨ (100 * r + s - 1) / s ≤ q) := by
  unfold shareF divU
  have h1 := ceil_le (a := 100 * r) (c := s) hq
  have h2 := ceil_le (a := 100 * r) (c := q) hs
  rw [Int.mul_comm q s] at h2
  have h3 : mn 1000000 ((100 * r + q - 1) / q) ≤ s ↔ 1000000 ≤ s ∨ (100 * r + q - 1) / q ≤ s := by unfold mn; split <;> omega
  rw [h3, h1, ← h2]
  omega
theorem dilute_eq {r s q : Int} (hq : 1 ≤ q) (hs : 1 ≤ s) (hs2 : s ≤ 1000000) : shareF r q ≤ s ↔ diluteQ r s ≤ q := by
  rw [dilute_law hq hs]
  unfold diluteQ
  by_cases e : s = 1000000
  · rw [if_pos e]; omega
  · rw [if_neg e]; unfold mx; split <;> omega
theorem diluteQ_ge (r s : Int) : 1 ≤ diluteQ r s := by
  unfold diluteQ; split
  · omega
  · exact mx_ge_left _ _
def diluteF (r s : Int) : Int × Int := if inB r 0 10000000 && inB s 1 1000000 then (if diluteQ r s > 100000 then (0, 3) else (diluteQ r s, 0)) else (0, 2)

theorem dilute1_any (r s q : Int) (b0 b1 : Nat) (w : World) (h1 : 0 ≤ r) (h2 : r ≤ 10000000) (h3 : 1 ≤ q) (h4 : q ≤ 100000) (c0 : w.cell? ⟨b0, 0, none⟩ = some (.int .i64 r)) (c1 : w.cell? ⟨b1, 0, none⟩ = some (.int .i64 s)) :
    Calls Try.prog 63 #[.int .i64 q, .pointer (some ⟨b0, 0, none⟩), .pointer (some ⟨b1, 0, none⟩)] w fun e w' => e = .returned (.bool (decide (shareF r q ≤ s))) ∧ Below w.heap.size w w' := by
  go_enter Try.func63, Try.ntmps63
  go_wp2_with fail
  go_quiet ((go_at_call 64; exact (shareOf_any _ _ _ h1 h2 h3 h4).mono (fun _ _ ⟨he, hw⟩ => ⟨he, _, hw.symm⟩)))
  go_wp2
  go_ret
  exact ⟨rfl, below_drewN (Below.refl _ _) _⟩
theorem DiluteFlow_i (r s : Int) (w : World) :
    Calls Try.prog 18 #[.int .i64 r, .int .i64 s] w fun e w' => e = .returned (.tuple #[.int .i64 (diluteF r s).1, .int .i64 (diluteF r s).2]) ∧ Below w.heap.size w w' := by
  unfold diluteF
  cases h1 : inB r 0 10000000
  · go_enter Try.func18, Try.ntmps18
    go_wp2_with (first | (go_at_call 57; refine (within_any _ _ _ _).mono ?_; rintro e w' ⟨rfl, rfl⟩) | (go_at_call 60; refine (rateOk_any _ _).mono ?_; rintro e w' ⟨rfl, rfl⟩))
    go_ret2
    exact ⟨by simp, by go_grown⟩
  · obtain ⟨h1a, h1b⟩ := inB_iff.1 h1
    cases h2 : inB s 1 1000000
    · go_enter Try.func18, Try.ntmps18
      go_wp2_with (first | (go_at_call 57; refine (within_any _ _ _ _).mono ?_; rintro e w' ⟨rfl, rfl⟩) | (go_at_call 60; refine (rateOk_any _ _).mono ?_; rintro e w' ⟨rfl, rfl⟩))
      go_ret2
      exact ⟨by simp, by go_grown⟩
    · obtain ⟨h2a, h2b⟩ := inB_iff.1 h2
      have hge := diluteQ_ge r s
      have hb0 : Below w.heap.size w ((w.alloc (.cells #[.int .i64 r] 2)).alloc (.cells #[.int .i64 s] 2)) := ((Below.refl w.heap.size w).alloc (Nat.le_refl _) _).alloc (by simp) _
      obtain ⟨k, hk1, hk2, hk3, hk4⟩ : ∃ k, 1 ≤ k ∧ k ≤ 100001 ∧ (∀ x, 1 ≤ x → x ≤ 100000 → (k ≤ x ↔ shareF r x ≤ s)) ∧
          (if (true && true) = true then (if diluteQ r s > 100000 then ((0, 3) : Int × Int) else (diluteQ r s, 0)) else (0, 2)) = (cond (decide (k ≤ 100000)) k 0, cond (decide (k ≤ 100000)) 0 3) := by
        by_cases hh : diluteQ r s > 100000
        · exact ⟨100001, by omega, by omega, fun x a b => by rw [dilute_eq a h2a h2b]; omega, by simp [hh]⟩
        · exact ⟨diluteQ r s, hge, by omega, fun x a b => by rw [dilute_eq a h2a h2b], by rw [decide_eq_true (by omega)]; simp [hh]⟩
      rw [hk4]
      have HB := Lib.hid hb0
      have H3 := Lib.hid hk3
      clear hge hb0 hk3 hk4
      go_enter Try.func18, Try.ntmps18
      go_wp2_with (first | (go_at_call 57; refine (within_any _ _ _ _).mono ?_; rintro e w' ⟨rfl, rfl⟩) | (go_at_call 60; refine (rateOk_any _ _).mono ?_; rintro e w' ⟨rfl, rfl⟩))
      refine (firstIn_any 63 _ (enters_of Try.func63 (by kernel_rfl) rfl) 1 100000 k (by omega) (by omega) hk1 hk2 _ ?_).mono ?_
      · intro W x hb hx1 hx2
        obtain ⟨hc, _⟩ := bcell hb
        have c0 := (hc _ _ (by simp only [World.size_alloc]; omega)).trans (box2 w (.int .i64 r) (.int .i64 s) 2 2).1
        have c1 := (hc _ _ (by simp)).trans (box2 w (.int .i64 r) (.int .i64 s) 2 2).2
        have e : decide (k ≤ x) = decide (shareF r x ≤ s) := decide_eq_decide.2 (H3.out x hx1 hx2)
        show Calls _ _ #[.int .i64 x, .pointer (some ⟨w.heap.size, 0, none⟩), .pointer (some ⟨w.heap.size + 1, 0, none⟩)] _ (fun e' w' => e' = .returned (.bool (decide (k ≤ x))) ∧ _)
        rw [e]
        exact dilute1_any r s x _ _ W h1a h1b hx1 hx2 c0 c1
      · rintro e w' ⟨rfl, hb⟩
        go_wp2_with (go_at_call 61; refine (orNotFound_any _ _ _).mono ?_; rintro e w' ⟨rfl, rfl⟩)
        go_ret2
        exact ⟨rfl, HB.out.trans (hb.mono (by simp; omega))⟩
theorem DiluteFlow_s (r s : Int) (w : World) :
    Calls Try.prog 17 #[.int .i64 r, .int .i64 s] w fun e w' => e = .returned (.tuple #[.int .i64 (diluteF r s).1, .int .i64 (diluteF r s).2]) ∧ Below w.heap.size w w' := by
  unfold diluteF
  cases h1 : inB r 0 10000000
  · go_enter Try.func17, Try.ntmps17
    go_wp2_with (go_at_call 54; refine (l00In_any _ _ _ _).mono ?_; rintro e w' ⟨rfl, rfl⟩)
    go_ret2
    exact ⟨by simp, Below.refl _ _⟩
  · obtain ⟨h1a, h1b⟩ := inB_iff.1 h1
    cases h2 : inB s 1 1000000
    · go_enter Try.func17, Try.ntmps17
      go_wp2_with (go_at_call 54; refine (l00In_any _ _ _ _).mono ?_; rintro e w' ⟨rfl, rfl⟩)
      go_ret2
      exact ⟨by simp, Below.refl _ _⟩
    · obtain ⟨h2a, h2b⟩ := inB_iff.1 h2
      have q1 : 0 ≤ (100 * r + s - 1) / s := Int.ediv_nonneg (by omega) (by omega)
      have q2 : (100 * r + s - 1) / s ≤ 100 * r + s - 1 := Int.ediv_le_self _ (by omega)
      by_cases hw : s = 1000000
      · have e : diluteQ r s = 1 := by unfold diluteQ; rw [if_pos hw]
        rw [e]
        subst hw
        go_enter Try.func17, Try.ntmps17
        go_wp2_with (first | (go_at_call 54; refine (l00In_any _ _ _ _).mono ?_; rintro e w' ⟨rfl, rfl⟩) | (go_at_call 59; refine (l00Max_any _ _ _).mono ?_; rintro e w' ⟨rfl, rfl⟩))
        go_ret2
        exact ⟨by simp, Below.refl _ _⟩
      · have e : diluteQ r s = mx 1 ((100 * r + s - 1) / s) := by unfold diluteQ; rw [if_neg hw]
        rw [e]
        clear e
        have hw' : (s == 1000000) = false := by simp [hw]
        clear hw
        by_cases hh : mx 1 ((100 * r + s - 1) / s) > 100000
        · go_enter Try.func17, Try.ntmps17
          go_wp2_with (first | (go_at_call 54; refine (l00In_any _ _ _ _).mono ?_; rintro e w' ⟨rfl, rfl⟩) | (go_at_call 59; refine (l00Max_any _ _ _).mono ?_; rintro e w' ⟨rfl, rfl⟩))
          go_ret2
          exact ⟨by simp, Below.refl _ _⟩
        · go_enter Try.func17, Try.ntmps17
          go_wp2_with (first | (go_at_call 54; refine (l00In_any _ _ _ _).mono ?_; rintro e w' ⟨rfl, rfl⟩) | (go_at_call 59; refine (l00Max_any _ _ _).mono ?_; rintro e w' ⟨rfl, rfl⟩))
          go_ret2
          exact ⟨by simp, Below.refl _ _⟩
theorem fnExactDiluteFlow_walk (a0 : Int) (_ : -9223372036854775808 ≤ a0 ∧ a0 ≤ 9223372036854775807) (a1 : Int) (_ : -9223372036854775808 ≤ a1 ∧ a1 ≤ 9223372036854775807) (w : World) :
    Calls Try.prog 4 #[.int .i64 a0, .int .i64 a1] w fun e w' => e = .returned (.bool true) ∧ Below w.heap.size w w' := by
  go_enter Try.func4, Try.ntmps4
  go_wp2_with fail
  refine (DiluteFlow_s _ _ _).mono ?_
  rintro e w1 ⟨rfl, hb1⟩
  obtain ⟨hc1, hf1⟩ := bcell hb1
  have q1 : w.heap.size ≤ w1.heap.size := by have := hb1.size; omega
  have be1 : Below w.heap.size w w1 := hb1
  go_wp2_with fail
  refine (DiluteFlow_i _ _ _).mono ?_
  rintro e w2 ⟨rfl, hb2⟩
  obtain ⟨hc2, hf2⟩ := bcell hb2
  have q2 : w.heap.size ≤ w2.heap.size := by have := hb2.size; omega
  have be2 : Below w.heap.size w w2 := be1.trans (hb2.mono (by omega))
  have hbe := be2
  go_wp2_with fail
  go_ret
  exact ⟨rfl, hbe⟩
end Go.Proofs.Ytnjplfcmojeedaa
