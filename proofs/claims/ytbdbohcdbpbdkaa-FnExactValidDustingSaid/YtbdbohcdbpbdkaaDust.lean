/- Tasks that make dust: when one is valid, by the program and by the reference; and the walk of the law. Conditions: the facts on memory that each theorem names. -/
import Derived.Test.YtbdbohcdbpbdkaaBase
import Derived.Handy
namespace Go.Proofs.Ytbdbohcdbpbdkaa
open Go.RowKit
open Pl
/-- A valid task: airway, first minute, last minute, dust. -/
def dustingB (a f u d : Int) : Bool := inB a 0 23 && (inB u 0 1440 && (inB f 0 (u - 1) && inB d 0 1000000))
theorem dustingB_alt (a f u d : Int) : dustingB a f u d = (inB a 0 23 && ((inB f 0 1439 && inB u (f + 1) 1440) && inB d 0 1000000)) := by
  unfold dustingB inB
  rw [Bool.eq_iff_iff]
  simp only [Bool.and_eq_true, decide_eq_true_eq]
  omega
theorem ValidDusting_i (a f u d : Int) (w : World) :
    Calls Try.prog 18 #[.agg #[.int .i64 a, .int .i64 f, .int .i64 u, .int .i64 d]] w fun e w' => e = .returned (.bool (dustingB a f u d)) ∧ Below w.heap.size w w' := by
  unfold dustingB
  cases h1 : inB a 0 23
  · go_enter Try.func18, Try.ntmps18
    go_wp2_with (go_at_call 44; refine (within_any _ _ _ _).mono ?_; rintro e w' ⟨rfl, rfl⟩)
    go_ret
    exact ⟨rfl, by go_grown⟩
  · obtain ⟨h1a, h1b⟩ := inB_iff.1 h1
    cases h2 : inB u 0 1440
    · go_enter Try.func18, Try.ntmps18
      go_wp2_with (go_at_call 44; refine (within_any _ _ _ _).mono ?_; rintro e w' ⟨rfl, rfl⟩)
      go_ret
      exact ⟨rfl, by go_grown⟩
    · obtain ⟨h2a, h2b⟩ := inB_iff.1 h2
      cases h3 : inB f 0 (u - 1)
      · go_enter Try.func18, Try.ntmps18
        go_wp2_with (go_at_call 44; refine (within_any _ _ _ _).mono ?_; rintro e w' ⟨rfl, rfl⟩)
        go_ret
        exact ⟨rfl, by go_grown⟩
      · obtain ⟨h3a, h3b⟩ := inB_iff.1 h3
        go_enter Try.func18, Try.ntmps18
        go_wp2_with (first | (go_at_call 44; refine (within_any _ _ _ _).mono ?_; rintro e w' ⟨rfl, rfl⟩) | (go_at_call 47; refine (dustOk_any _ _).mono ?_; rintro e w' ⟨rfl, rfl⟩))
        go_ret
        exact ⟨rfl, by go_grown⟩
theorem l14Minutes_any (f u : Int) (w : World) :
    Calls Try.prog 66 #[.int .i64 f, .int .i64 u] w fun e w' => e = .returned (.bool (inB f 0 1439 && inB u (f + 1) 1440)) ∧ w = w' := by
  cases h1 : inB f 0 1439
  · go_enter Try.func66, Try.ntmps66
    go_wp2_with (go_at_call 42; refine (l00In_any _ _ _ _).mono ?_; rintro e w' ⟨rfl, rfl⟩)
    go_ret
    exact ⟨rfl, rfl⟩
  · obtain ⟨h1a, h1b⟩ := inB_iff.1 h1
    go_enter Try.func66, Try.ntmps66
    go_wp2_with (go_at_call 42; refine (l00In_any _ _ _ _).mono ?_; rintro e w' ⟨rfl, rfl⟩)
    go_ret
    exact ⟨rfl, rfl⟩
theorem l14One_any (b o : Nat) (a f u d : Int) (w : World) (c0 : w.cell? ⟨b, o, none⟩ = some (.int .i64 a)) (c1 : w.cell? ⟨b, o + 1, none⟩ = some (.int .i64 f)) (c2 : w.cell? ⟨b, o + 2, none⟩ = some (.int .i64 u)) (c3 : w.cell? ⟨b, o + 3, none⟩ = some (.int .i64 d)) :
    Calls Try.prog 46 #[.pointer (some ⟨b, o, none⟩)] w fun e w' => e = .returned (.bool (dustingB a f u d)) ∧ ∃ n, w.drewN n = w' := by
  rw [dustingB_alt]
  cases h1 : inB a 0 23
  · go_enter Try.func46, Try.ntmps46
    go_wp2_with fail
    go_quiet ((go_at_call 65; exact (eqb (l14Airway_any _ _) h1).mono (fun _ _ ⟨he, hw⟩ => ⟨he, _, hw.symm⟩)))
    go_wp2
    go_ret
    exact ⟨rfl, _, rfl⟩
  · cases h2 : (inB f 0 1439 && inB u (f + 1) 1440)
    · go_enter Try.func46, Try.ntmps46
      go_wp2_with fail
      go_quiet ((first | (go_at_call 65; exact (eqb (l14Airway_any _ _) h1).mono (fun _ _ ⟨he, hw⟩ => ⟨he, _, hw.symm⟩)) | (go_at_call 66; exact (eqb (l14Minutes_any _ _ _) h2).mono (fun _ _ ⟨he, hw⟩ => ⟨he, _, hw.symm⟩))))
      go_wp2
      go_ret
      exact ⟨rfl, _, rfl⟩
    · go_enter Try.func46, Try.ntmps46
      go_wp2_with fail
      go_quiet ((first | (go_at_call 65; exact (eqb (l14Airway_any _ _) h1).mono (fun _ _ ⟨he, hw⟩ => ⟨he, _, hw.symm⟩)) | (go_at_call 66; exact (eqb (l14Minutes_any _ _ _) h2).mono (fun _ _ ⟨he, hw⟩ => ⟨he, _, hw.symm⟩)) | (go_at_call 55; exact (l14Dust_any _ _).mono (fun _ _ ⟨he, hw⟩ => ⟨he, _, hw.symm⟩))))
      go_wp2
      go_ret
      exact ⟨rfl, _, rfl⟩
theorem toDusting_any (a f u d : Int) (w : World) :
    Calls Try.prog 17 #[.agg #[.int .i64 a, .int .i64 f, .int .i64 u, .int .i64 d]] w fun e w' => e = .returned (.agg #[.int .i64 a, .int .i64 f, .int .i64 u, .int .i64 d]) ∧ Below w.heap.size w w' := by
  go_enter Try.func17, Try.ntmps17
  go_wp2
  go_returns
  exact ⟨rfl, by go_grown⟩
theorem ValidDusting_s (a f u d : Int) (w : World) :
    Calls Try.prog 16 #[.agg #[.int .i64 a, .int .i64 f, .int .i64 u, .int .i64 d]] w fun e w' => e = .returned (.bool (dustingB a f u d)) ∧ Below w.heap.size w w' := by
  go_enter Try.func16, Try.ntmps16
  go_wp2_with (go_at_call 46; refine (l14One_any _ _ a f u d _ (by simp) (by simp) (by simp) (by simp)).mono ?_; rintro e w' ⟨rfl, _, rfl⟩)
  go_ret
  exact ⟨rfl, below_drewN (by go_grown) _⟩
theorem fnExactValidDusting_walk (a : Int) (_ : -9223372036854775808 ≤ a ∧ a ≤ 9223372036854775807) (f : Int) (_ : -9223372036854775808 ≤ f ∧ f ≤ 9223372036854775807) (u : Int) (_ : -9223372036854775808 ≤ u ∧ u ≤ 9223372036854775807) (d : Int) (_ : -9223372036854775808 ≤ d ∧ d ≤ 9223372036854775807) (w : World) :
    Calls Try.prog 4 #[.agg #[.int .i64 a, .int .i64 f, .int .i64 u, .int .i64 d]] w fun e w' => e = .returned (.bool true) ∧ Below w.heap.size w w' := by
  go_enter Try.func4, Try.ntmps4
  go_wp2_with fail
  refine (toDusting_any _ _ _ _ _).mono ?_
  rintro e w1 ⟨rfl, hb1⟩
  obtain ⟨hc1, hf1⟩ := bcell hb1
  have q1 : w.heap.size < w1.heap.size := by have := hb1.size; simp at this; omega
  go_wp2_with fail
  refine (ValidDusting_s _ _ _ _ _).mono ?_
  rintro e w2 ⟨rfl, hb2⟩
  obtain ⟨hc2, hf2⟩ := bcell hb2
  have q2 : w.heap.size < w2.heap.size := by have := hb2.size; omega
  go_wp2_with fail
  refine (toDusting_any _ _ _ _ _).mono ?_
  rintro e w3 ⟨rfl, hb3⟩
  obtain ⟨hc3, hf3⟩ := bcell hb3
  have q3 : w.heap.size < w3.heap.size := by have := hb3.size; omega
  go_wp2_with fail
  refine (ValidDusting_i _ _ _ _ _).mono ?_
  rintro e w4 ⟨rfl, hb4⟩
  go_wp2_with fail
  go_ret
  exact ⟨rfl, (((Below.refl _ _).alloc (Nat.le_refl _) _).trans (hb1.mono (by simp))).trans ((hb2.mono (by omega)).trans ((hb3.mono (by omega)).trans (hb4.mono (by omega))))⟩
end Go.Proofs.Ytbdbohcdbpbdkaa
