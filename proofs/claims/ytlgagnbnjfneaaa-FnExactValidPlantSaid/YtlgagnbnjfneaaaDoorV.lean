/- Doors: when one is valid, by the program and by the reference. Conditions: the facts on memory and on lengths that each theorem names. -/
import Derived.Test.YtlgagnbnjfneaaaPress
namespace Go.Proofs.Ytlgagnbnjfneaaa
open Go.RowKit
open Pl
noncomputable def doorB (s : ByteArray) (a u v : Int) : Bool := nameB s && (inB a 0 23 && (inB v 1 1000000 && inB u 1 v))
theorem ValidDoor_i (s : ByteArray) (a u v : Int) (w : World) (hs : s.size ≤ maxLen) :
    Calls Try.prog 131 #[.agg #[.string s, .int .i64 a, .int .i64 u, .int .i64 v]] w fun e w' => e = .returned (.bool (doorB s a u v)) ∧ Below w.heap.size w w' := by
  unfold doorB
  cases h0 : nameB s
  · go_enter Try.func131, Try.ntmps131
    go_wp2_with (first | (go_at_call 54; refine (within_any _ _ _ _).mono ?_; rintro e w' ⟨rfl, rfl⟩) | (go_at_call 158; refine (resistanceOk_any _ _).mono ?_; rintro e w' ⟨rfl, rfl⟩) | (go_at_call 142; refine (IsName_any _ _ hs).mono ?_; rintro e w' ⟨rfl, rfl⟩))
    go_ret
    exact ⟨rfl, by go_grown⟩
  · cases h1 : inB a 0 23
    · go_enter Try.func131, Try.ntmps131
      go_wp2_with (first | (go_at_call 54; refine (within_any _ _ _ _).mono ?_; rintro e w' ⟨rfl, rfl⟩) | (go_at_call 158; refine (resistanceOk_any _ _).mono ?_; rintro e w' ⟨rfl, rfl⟩) | (go_at_call 142; refine (IsName_any _ _ hs).mono ?_; rintro e w' ⟨rfl, rfl⟩))
      go_ret
      exact ⟨rfl, by go_grown⟩
    · obtain ⟨h1a, h1b⟩ := inB_iff.1 h1
      cases h2 : inB v 1 1000000
      · go_enter Try.func131, Try.ntmps131
        go_wp2_with (first | (go_at_call 54; refine (within_any _ _ _ _).mono ?_; rintro e w' ⟨rfl, rfl⟩) | (go_at_call 158; refine (resistanceOk_any _ _).mono ?_; rintro e w' ⟨rfl, rfl⟩) | (go_at_call 142; refine (IsName_any _ _ hs).mono ?_; rintro e w' ⟨rfl, rfl⟩))
        go_ret
        exact ⟨rfl, by go_grown⟩
      · obtain ⟨h2a, h2b⟩ := inB_iff.1 h2
        go_enter Try.func131, Try.ntmps131
        go_wp2_with (first | (go_at_call 54; refine (within_any _ _ _ _).mono ?_; rintro e w' ⟨rfl, rfl⟩) | (go_at_call 158; refine (resistanceOk_any _ _).mono ?_; rintro e w' ⟨rfl, rfl⟩) | (go_at_call 142; refine (IsName_any _ _ hs).mono ?_; rintro e w' ⟨rfl, rfl⟩))
        go_ret
        exact ⟨rfl, by go_grown⟩
theorem l10One_any (b o : Nat) (s : ByteArray) (a u v : Int) (w : World) (hs : s.size ≤ maxLen) (c0 : w.cell? ⟨b, o, none⟩ = some (.string s)) (c1 : w.cell? ⟨b, o + 1, none⟩ = some (.int .i64 a)) (c2 : w.cell? ⟨b, o + 2, none⟩ = some (.int .i64 u)) (c3 : w.cell? ⟨b, o + 3, none⟩ = some (.int .i64 v)) :
    Calls Try.prog 156 #[.pointer (some ⟨b, o, none⟩)] w fun e w' => e = .returned (.bool (doorB s a u v)) ∧ ∃ n, w.drewN n = w' := by
  have HN := Lib.hid (fun W => l01Name_any s W hs)
  have HA := Lib.hid (fun W => l00In_any a 0 23 W)
  have HS := Lib.hid (fun W => l03Res_any v W)
  have HO := Lib.hid (fun W => l00In_any u 1 v W)
  unfold doorB
  cases h0 : nameB s
  · rw [h0] at HN
    clear h0
    go_enter Try.func156, Try.ntmps156
    go_wp2
    go_big_quiet ((go_at_call 140; first | (with_reducible exact quiet_s (HN.out _)) | (with_reducible exact quiet_s2 (HN.out _))))
    go_wp2
    go_ret
    exact ⟨rfl, _, rfl⟩
  rw [h0] at HN
  clear h0
  cases h1 : inB a 0 23
  · rw [h1] at HA
    clear h1
    go_enter Try.func156, Try.ntmps156
    go_wp2
    go_big_quiet (first | (go_at_call 140; first | (with_reducible exact quiet_s (HN.out _)) | (with_reducible exact quiet_s2 (HN.out _))) | (go_at_call 60; first | (with_reducible exact quiet_s (HA.out _)) | (with_reducible exact quiet_s2 (HA.out _))))
    go_wp2
    go_ret
    exact ⟨rfl, _, rfl⟩
  rw [h1] at HA
  clear h1
  cases h2 : inB v 1 1000000
  · rw [h2] at HS
    clear h2
    go_enter Try.func156, Try.ntmps156
    go_wp2
    go_big_quiet (first | (go_at_call 140; first | (with_reducible exact quiet_s (HN.out _)) | (with_reducible exact quiet_s2 (HN.out _))) | (go_at_call 60; first | (with_reducible exact quiet_s (HA.out _)) | (with_reducible exact quiet_s2 (HA.out _))) | (go_at_call 40; first | (with_reducible exact quiet_s (HS.out _)) | (with_reducible exact quiet_s2 (HS.out _))))
    go_wp2
    go_ret
    exact ⟨rfl, _, rfl⟩
  rw [h2] at HS
  clear h2
  generalize inB u 1 v = r at *
  go_enter Try.func156, Try.ntmps156
  go_wp2
  go_big_quiet (first | (go_at_call 140; first | (with_reducible exact quiet_s (HN.out _)) | (with_reducible exact quiet_s2 (HN.out _))) | (go_at_call 60; first | (with_reducible exact quiet_s (HA.out _)) | (with_reducible exact quiet_s2 (HA.out _))) | (go_at_call 40; first | (with_reducible exact quiet_s (HS.out _)) | (with_reducible exact quiet_s2 (HS.out _))) | (go_at_call 60; first | (with_reducible exact quiet_s (HO.out _)) | (with_reducible exact quiet_s2 (HO.out _))))
  go_wp2
  go_ret
  exact ⟨rfl, _, rfl⟩
end Go.Proofs.Ytlgagnbnjfneaaa
