/- Tasks that make dust: when one is valid, by the program and by the reference; and the walk of the law. Conditions: the facts on memory that each theorem names. -/
import Derived.Test.YtemidjejelmdlaaDoorBase
import Derived.Handy
namespace Go.Proofs.YtemidjejelmdlaaDoor
open Go.RowKit
open Pl
/-- A valid task: airway, first minute, last minute, dust. -/
def dustingB (a f u d : Int) : Bool := inB a 0 23 && (inB u 0 1440 && (inB f 0 (u - 1) && inB d 0 1000000))
theorem dustingB_alt (a f u d : Int) : dustingB a f u d = (inB a 0 23 && ((inB f 0 1439 && inB u (f + 1) 1440) && inB d 0 1000000)) := by
  unfold dustingB inB
  rw [Bool.eq_iff_iff]
  simp only [Bool.and_eq_true, decide_eq_true_eq]
  omega
theorem ValidDusting_i (a f u d : Int) (w : World) :
    Calls Tryd.prog 31 #[.agg #[.int .i64 a, .int .i64 f, .int .i64 u, .int .i64 d]] w fun e w' => e = .returned (.bool (dustingB a f u d)) ∧ Below w.heap.size w w' := by
  unfold dustingB
  cases h1 : inB a 0 23
  · go_enter Tryd.func31, Tryd.ntmps31
    go_wp2_with (go_at_call 49; refine (within_any _ _ _ _).mono ?_; rintro e w' ⟨rfl, rfl⟩)
    go_ret
    exact ⟨rfl, by go_grown⟩
  · obtain ⟨h1a, h1b⟩ := inB_iff.1 h1
    cases h2 : inB u 0 1440
    · go_enter Tryd.func31, Tryd.ntmps31
      go_wp2_with (go_at_call 49; refine (within_any _ _ _ _).mono ?_; rintro e w' ⟨rfl, rfl⟩)
      go_ret
      exact ⟨rfl, by go_grown⟩
    · obtain ⟨h2a, h2b⟩ := inB_iff.1 h2
      cases h3 : inB f 0 (u - 1)
      · go_enter Tryd.func31, Tryd.ntmps31
        go_wp2_with (go_at_call 49; refine (within_any _ _ _ _).mono ?_; rintro e w' ⟨rfl, rfl⟩)
        go_ret
        exact ⟨rfl, by go_grown⟩
      · obtain ⟨h3a, h3b⟩ := inB_iff.1 h3
        go_enter Tryd.func31, Tryd.ntmps31
        go_wp2_with (first | (go_at_call 49; refine (within_any _ _ _ _).mono ?_; rintro e w' ⟨rfl, rfl⟩) | (go_at_call 50; refine (dustOk_any _ _).mono ?_; rintro e w' ⟨rfl, rfl⟩))
        go_ret
        exact ⟨rfl, by go_grown⟩
theorem l14Minutes_any (f u : Int) (w : World) :
    Calls Tryd.prog 46 #[.int .i64 f, .int .i64 u] w fun e w' => e = .returned (.bool (inB f 0 1439 && inB u (f + 1) 1440)) ∧ w = w' := by
  cases h1 : inB f 0 1439
  · go_enter Tryd.func46, Tryd.ntmps46
    go_wp2_with (go_at_call 54; refine (l00In_any _ _ _ _).mono ?_; rintro e w' ⟨rfl, rfl⟩)
    go_ret
    exact ⟨rfl, rfl⟩
  · obtain ⟨h1a, h1b⟩ := inB_iff.1 h1
    go_enter Tryd.func46, Tryd.ntmps46
    go_wp2_with (go_at_call 54; refine (l00In_any _ _ _ _).mono ?_; rintro e w' ⟨rfl, rfl⟩)
    go_ret
    exact ⟨rfl, rfl⟩
theorem l14One_any (b o : Nat) (a f u d : Int) (w : World) (c0 : w.cell? ⟨b, o, none⟩ = some (.int .i64 a)) (c1 : w.cell? ⟨b, o + 1, none⟩ = some (.int .i64 f)) (c2 : w.cell? ⟨b, o + 2, none⟩ = some (.int .i64 u)) (c3 : w.cell? ⟨b, o + 3, none⟩ = some (.int .i64 d)) :
    Calls Tryd.prog 29 #[.pointer (some ⟨b, o, none⟩)] w fun e w' => e = .returned (.bool (dustingB a f u d)) ∧ ∃ n, w.drewN n = w' := by
  rw [dustingB_alt]
  cases h1 : inB a 0 23
  · go_enter Tryd.func29, Tryd.ntmps29
    go_wp2_with fail
    go_quiet ((go_at_call 45; exact (eqb (l14Airway_any _ _) h1).mono (fun _ _ ⟨he, hw⟩ => ⟨he, _, hw.symm⟩)))
    go_wp2
    go_ret
    exact ⟨rfl, _, rfl⟩
  · cases h2 : (inB f 0 1439 && inB u (f + 1) 1440)
    · go_enter Tryd.func29, Tryd.ntmps29
      go_wp2_with fail
      go_quiet ((first | (go_at_call 45; exact (eqb (l14Airway_any _ _) h1).mono (fun _ _ ⟨he, hw⟩ => ⟨he, _, hw.symm⟩)) | (go_at_call 46; exact (eqb (l14Minutes_any _ _ _) h2).mono (fun _ _ ⟨he, hw⟩ => ⟨he, _, hw.symm⟩))))
      go_wp2
      go_ret
      exact ⟨rfl, _, rfl⟩
    · go_enter Tryd.func29, Tryd.ntmps29
      go_wp2_with fail
      go_quiet ((first | (go_at_call 45; exact (eqb (l14Airway_any _ _) h1).mono (fun _ _ ⟨he, hw⟩ => ⟨he, _, hw.symm⟩)) | (go_at_call 46; exact (eqb (l14Minutes_any _ _ _) h2).mono (fun _ _ ⟨he, hw⟩ => ⟨he, _, hw.symm⟩)) | (go_at_call 47; exact (l14Dust_any _ _).mono (fun _ _ ⟨he, hw⟩ => ⟨he, _, hw.symm⟩))))
      go_wp2
      go_ret
      exact ⟨rfl, _, rfl⟩
theorem toDusting_any (a f u d : Int) (w : World) :
    Calls Tryd.prog 10 #[.agg #[.int .i64 a, .int .i64 f, .int .i64 u, .int .i64 d]] w fun e w' => e = .returned (.agg #[.int .i64 a, .int .i64 f, .int .i64 u, .int .i64 d]) ∧ Below w.heap.size w w' := by
  go_enter Tryd.func10, Tryd.ntmps10
  go_wp2
  go_returns
  exact ⟨rfl, by go_grown⟩
end Go.Proofs.YtemidjejelmdlaaDoor
