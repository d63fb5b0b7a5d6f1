/- Lists of tasks that make dust: whether one is valid, the dust at a minute, the worst minute, the longest stay: the program's and the reference's; and the walks of the laws. No conditions beyond the lists' lengths. -/
import Derived.Test.YtmfbdngibbkciaaDustAt
import Derived.Test.YtmfbdngibbkciaaFrame3
namespace Go.Proofs.Ytmfbdngibbkciaa
open Go.RowKit
open Pl
theorem ValidDs_i (A : Option Addr) (c : Nat) (xs : List Dg) (w : World) (hn : (xs.length : Int) ≤ 1048576) (hI : Recs encD 4 w.heap.size w A xs) :
    Calls Try.prog 20 #[.slice A xs.length c] w fun e w' => e = .returned (.bool (dsB xs)) ∧ Below w.heap.size w w' := ValidDustings_i A c xs w.heap.size w (by omega) hI (Nat.le_refl _)
theorem ValidDs_s (A : Option Addr) (c : Nat) (xs : List Dg) (w : World) (hn : (xs.length : Int) ≤ 1048576) (hI : Recs encD 4 w.heap.size w A xs) :
    Calls Try.prog 18 #[.slice A xs.length c] w fun e w' => e = .returned (.bool (dsB xs)) ∧ Below w.heap.size w w' := by
  have HL := Lib.hid (l14Ok_any A c xs w.heap.size w (by omega) hI (Nat.le_refl _))
  generalize dsB xs = r at *
  go_enter Try.func18, Try.ntmps18
  go_wp2_with fail
  refine HL.out.mono ?_
  rintro e w1 ⟨rfl, hb⟩
  go_wp2
  go_ret
  exact ⟨rfl, hb⟩
set_option maxRecDepth 100000 in
theorem fnExactValidDustings_walk {w : World} (A0 : Option Addr) (c0 : Nat) (xs0 : List Dg) (I0 : Recs encD 4 w.heap.size w A0 xs0) (_ : FitsD xs0) (l0 : xs0.length ≤ maxLen)  :
    Calls Try.prog 4 #[.slice A0 xs0.length c0] w fun e w' => e = .returned (.bool true) ∧ Below w.heap.size w w' := by
  by_cases hn0 : (xs0.length : Int) ≤ 1048576
  rotate_left
  · have HZ := Lib.hid (fun W => szDustingS_no A0 c0 xs0.length 1048576 W (by omega) (by omega) l0 (by omega))
    go_enter Try.func4, Try.ntmps4
    go_wp2_with (go_at_call 17; refine (HZ.out _).mono ?_; rintro e w' ⟨rfl, rfl⟩)
    go_ret
    exact ⟨rfl, Below.refl _ _⟩
  have HZ := Lib.hid (fun W => szDustingS_yes A0 c0 xs0.length 1048576 W (by omega) (by omega))
  have HI := Lib.hid I0
  clear I0
  go_enter Try.func4, Try.ntmps4
  have be0 := Below.refl w.heap.size w
  go_wp2_with (go_at_call 17; refine (HZ.out _).mono ?_; rintro e w' ⟨rfl, rfl⟩)
  refine (toDustingS_any A0 c0 xs0 w.heap.size _ (by omega) (HI.out.below be0) be0.size).mono ?_
  rintro e w1 ⟨rfl, ho1, hb1⟩
  have be1 := be0.trans (hb1.mono be0.size)
  go_wp2_with fail
  refine (ValidDs_s _ _ xs0  _ (by omega) ((ho1).rows encD_len)).mono ?_
  rintro e w2 ⟨rfl, hb2⟩
  have be2 := be1.trans (hb2.mono be1.size)
  go_wp2_with fail
  refine (toDustingS_any A0 c0 xs0 w.heap.size _ (by omega) (HI.out.below be2) be2.size).mono ?_
  rintro e w3 ⟨rfl, ho3, hb3⟩
  have be3 := be2.trans (hb3.mono be2.size)
  go_wp2_with fail
  refine (ValidDs_i _ _ xs0  _ (by omega) ((ho3).rows encD_len)).mono ?_
  rintro e w4 ⟨rfl, hb4⟩
  have be4 := be3.trans (hb4.mono be3.size)
  go_wp2_with fail
  refine (toDustingS_any A0 c0 xs0 w.heap.size _ (by omega) (HI.out.below be4) be4.size).mono ?_
  rintro e w5 ⟨rfl, ho5, hb5⟩
  have be5 := be4.trans (hb5.mono be4.size)
  go_wp2_with fail
  refine (eqDustingS_yes _ _ _ _ xs0 _ _ _ (by omega) ((ho3|>.later hb4 |>.later hb5 ).rows encD_len) ((ho5).rows encD_len) (Nat.le_refl _) (Nat.le_refl _)).mono ?_
  rintro e w6 ⟨rfl, hb6⟩
  have be6 := be5.trans (hb6.mono be5.size)
  go_wp2_with fail
  go_ret
  exact ⟨rfl, be6⟩
def dustAtF (xs : List Dg) (a t : Int) : Int × Int := if dsB xs then (if inB a 0 23 && inB t 0 1439 then (dustA xs a t, 0) else (0, 2)) else (0, 1)
theorem DustAt_i (A : Option Addr) (c : Nat) (xs : List Dg) (a t : Int) (w : World) (hn : (xs.length : Int) ≤ 1048576) (hI : Recs encD 4 w.heap.size w A xs) :
    Calls Try.prog 27 #[.slice A xs.length c, .int .i64 a, .int .i64 t] w fun e w' => e = .returned (.tuple #[.int .i64 (dustAtF xs a t).1, .int .i64 (dustAtF xs a t).2]) ∧ Below w.heap.size w w' := by
  have HL := Lib.hid (ValidDustings_i A c xs w.heap.size w (by omega) hI (Nat.le_refl _))
  have J := Lib.hid hI
  clear hI
  unfold dustAtF
  cases hv : dsB xs
  · rw [hv] at HL
    go_enter Try.func27, Try.ntmps27
    go_wp2_with fail
    refine HL.out.mono ?_
    rintro e w1 ⟨rfl, hb⟩
    go_wp2
    go_ret2
    exact ⟨by simp, hb⟩
  · rw [hv] at HL
    have HV := Lib.hid hv
    clear hv
    cases h1 : inB a 0 23
    · go_enter Try.func27, Try.ntmps27
      go_wp2_with fail
      refine HL.out.mono ?_
      rintro e w1 ⟨rfl, hb⟩
      go_wp2_with (go_at_call 51; refine (within_any _ _ _ _).mono ?_; rintro e w' ⟨rfl, rfl⟩)
      go_ret2
      exact ⟨by simp, hb⟩
    · obtain ⟨h1a, h1b⟩ := inB_iff.1 h1
      cases h2 : inB t 0 1439
      · go_enter Try.func27, Try.ntmps27
        go_wp2_with fail
        refine HL.out.mono ?_
        rintro e w1 ⟨rfl, hb⟩
        go_wp2_with (go_at_call 51; refine (within_any _ _ _ _).mono ?_; rintro e w' ⟨rfl, rfl⟩)
        go_ret2
        exact ⟨by simp, hb⟩
      · obtain ⟨h2a, h2b⟩ := inB_iff.1 h2
        go_enter Try.func27, Try.ntmps27
        go_wp2_with fail
        refine HL.out.mono ?_
        rintro e w1 ⟨rfl, hb⟩
        go_wp2_with (go_at_call 51; refine (within_any _ _ _ _).mono ?_; rintro e w' ⟨rfl, rfl⟩)
        refine (dustAt_any A c xs a t w.heap.size w1 (J.out.below hb) hb.size HV.out).mono ?_
        rintro e w2 ⟨rfl, hb2⟩
        go_wp2_with fail
        go_ret2
        exact ⟨by simp, hb.trans (hb2.mono hb.size)⟩
theorem DustAt_s (A : Option Addr) (c : Nat) (xs : List Dg) (a t : Int) (w : World) (hn : (xs.length : Int) ≤ 1048576) (hI : Recs encD 4 w.heap.size w A xs) :
    Calls Try.prog 26 #[.slice A xs.length c, .int .i64 a, .int .i64 t] w fun e w' => e = .returned (.tuple #[.int .i64 (dustAtF xs a t).1, .int .i64 (dustAtF xs a t).2]) ∧ Below w.heap.size w w' := by
  have HL := Lib.hid (l14Ok_any A c xs w.heap.size w (by omega) hI (Nat.le_refl _))
  have J := Lib.hid hI
  clear hI
  unfold dustAtF
  cases hv : dsB xs
  · rw [hv] at HL
    go_enter Try.func26, Try.ntmps26
    go_wp2_with fail
    refine HL.out.mono ?_
    rintro e w1 ⟨rfl, hb⟩
    go_wp2
    go_ret2
    exact ⟨by simp, hb⟩
  · rw [hv] at HL
    have HV := Lib.hid hv
    clear hv
    cases h1 : inB a 0 23
    · go_enter Try.func26, Try.ntmps26
      go_wp2_with fail
      refine HL.out.mono ?_
      rintro e w1 ⟨rfl, hb⟩
      go_wp2_with (first | (go_at_call 67; refine (eqb (l14Airway_any _ _) h1).mono ?_; rintro e w' ⟨rfl, rfl⟩) | (go_at_call 48; refine (l00In_any _ _ _ _).mono ?_; rintro e w' ⟨rfl, rfl⟩))
      go_ret2
      exact ⟨by simp, hb⟩
    · obtain ⟨h1a, h1b⟩ := inB_iff.1 h1
      cases h2 : inB t 0 1439
      · go_enter Try.func26, Try.ntmps26
        go_wp2_with fail
        refine HL.out.mono ?_
        rintro e w1 ⟨rfl, hb⟩
        go_wp2_with (first | (go_at_call 67; refine (eqb (l14Airway_any _ _) h1).mono ?_; rintro e w' ⟨rfl, rfl⟩) | (go_at_call 48; refine (l00In_any _ _ _ _).mono ?_; rintro e w' ⟨rfl, rfl⟩))
        go_ret2
        exact ⟨by simp, hb⟩
      · obtain ⟨h2a, h2b⟩ := inB_iff.1 h2
        go_enter Try.func26, Try.ntmps26
        go_wp2_with fail
        refine HL.out.mono ?_
        rintro e w1 ⟨rfl, hb⟩
        go_wp2_with (first | (go_at_call 67; refine (eqb (l14Airway_any _ _) h1).mono ?_; rintro e w' ⟨rfl, rfl⟩) | (go_at_call 48; refine (l00In_any _ _ _ _).mono ?_; rintro e w' ⟨rfl, rfl⟩))
        refine (l14At_any A c xs a t w.heap.size w1 (J.out.below hb) HV.out).mono ?_
        rintro e _ ⟨rfl, rfl⟩
        go_wp2_with fail
        go_ret2
        exact ⟨by simp, hb⟩
set_option maxRecDepth 100000 in
theorem fnExactDustAt_walk {w : World} (A0 : Option Addr) (c0 : Nat) (xs0 : List Dg) (I0 : Recs encD 4 w.heap.size w A0 xs0) (_ : FitsD xs0) (l0 : xs0.length ≤ maxLen) (a0 : Int) (_ : -9223372036854775808 ≤ a0 ∧ a0 ≤ 9223372036854775807) (a1 : Int) (_ : -9223372036854775808 ≤ a1 ∧ a1 ≤ 9223372036854775807) :
    Calls Try.prog 6 #[.slice A0 xs0.length c0, .int .i64 a0, .int .i64 a1] w fun e w' => e = .returned (.bool true) ∧ Below w.heap.size w w' := by
  by_cases hn0 : (xs0.length : Int) ≤ 1048576
  rotate_left
  · have HZ := Lib.hid (fun W => szDustingS_no A0 c0 xs0.length 1048576 W (by omega) (by omega) l0 (by omega))
    go_enter Try.func6, Try.ntmps6
    go_wp2_with (go_at_call 17; refine (HZ.out _).mono ?_; rintro e w' ⟨rfl, rfl⟩)
    go_ret
    exact ⟨rfl, Below.refl _ _⟩
  have HZ := Lib.hid (fun W => szDustingS_yes A0 c0 xs0.length 1048576 W (by omega) (by omega))
  have HI := Lib.hid I0
  clear I0
  go_enter Try.func6, Try.ntmps6
  have be0 := Below.refl w.heap.size w
  go_wp2_with (go_at_call 17; refine (HZ.out _).mono ?_; rintro e w' ⟨rfl, rfl⟩)
  refine (toDustingS_any A0 c0 xs0 w.heap.size _ (by omega) (HI.out.below be0) be0.size).mono ?_
  rintro e w1 ⟨rfl, ho1, hb1⟩
  have be1 := be0.trans (hb1.mono be0.size)
  go_wp2_with fail
  refine (DustAt_s _ _ xs0 a0 a1 _ (by omega) ((ho1).rows encD_len)).mono ?_
  rintro e w2 ⟨rfl, hb2⟩
  have be2 := be1.trans (hb2.mono be1.size)
  go_wp2_with fail
  refine (toDustingS_any A0 c0 xs0 w.heap.size _ (by omega) (HI.out.below be2) be2.size).mono ?_
  rintro e w3 ⟨rfl, ho3, hb3⟩
  have be3 := be2.trans (hb3.mono be2.size)
  go_wp2_with fail
  refine (DustAt_i _ _ xs0 a0 a1 _ (by omega) ((ho3).rows encD_len)).mono ?_
  rintro e w4 ⟨rfl, hb4⟩
  have be4 := be3.trans (hb4.mono be3.size)
  go_wp2_with fail
  refine (toDustingS_any A0 c0 xs0 w.heap.size _ (by omega) (HI.out.below be4) be4.size).mono ?_
  rintro e w5 ⟨rfl, ho5, hb5⟩
  have be5 := be4.trans (hb5.mono be4.size)
  go_wp2_with fail
  refine (eqDustingS_yes _ _ _ _ xs0 _ _ _ (by omega) ((ho3|>.later hb4 |>.later hb5 ).rows encD_len) ((ho5).rows encD_len) (Nat.le_refl _) (Nat.le_refl _)).mono ?_
  rintro e w6 ⟨rfl, hb6⟩
  have be6 := be5.trans (hb6.mono be5.size)
  go_wp2_with fail
  go_ret
  exact ⟨rfl, be6⟩
end Go.Proofs.Ytmfbdngibbkciaa
