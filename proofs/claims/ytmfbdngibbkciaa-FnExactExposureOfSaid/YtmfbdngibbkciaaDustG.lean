/- The worst minute, the longest stay among dust: the program's and the reference's; and the walks of the laws. No conditions beyond the lists' lengths. -/
import Derived.Test.YtmfbdngibbkciaaDustF
namespace Go.Proofs.Ytmfbdngibbkciaa
open Go.RowKit
open Pl
/-- The worst of the first k minutes. -/
def worstN (xs : List Dg) (a : Int) : Nat → Int × Int | 0 => (0, -1) | k + 1 => if (worstN xs a k).2 < dustA xs a k then ((k : Int), dustA xs a k) else worstN xs a k
theorem worstN_bd {xs : List Dg} (h : dsB xs = true) (a : Int) : ∀ k, 0 ≤ (worstN xs a k).1 ∧ (worstN xs a k).1 ≤ k ∧ -1 ≤ (worstN xs a k).2 ∧ (worstN xs a k).2 ≤ 12000000
  | 0 => by simp [worstN]
  | k + 1 => by
    obtain ⟨h1, h2, h3, h4⟩ := worstN_bd h a k
    obtain ⟨h5, h6⟩ := dustA_bd h a k
    unfold worstN
    split
    · exact ⟨by simp, by simp; omega, by simp; omega, h6⟩
    · exact ⟨h1, by omega, h3, h4⟩
def worstF (xs : List Dg) (a : Int) : Int × Int × Int := if dsB xs then (if inB a 0 23 then ((worstN xs a 1440).1, (worstN xs a 1440).2, 0) else (0, 0, 2)) else (0, 0, 1)
theorem ret_iii {a b c a' b' c' : Int} (h : (a, b, c) = (a', b', c')) : Ending.returned (.tuple #[.int .i64 a, .int .i64 b, .int .i64 c]) = .returned (.tuple #[.int .i64 a', .int .i64 b', .int .i64 c']) := by
  injection h with h1 h2; injection h2 with h2 h3; rw [h1, h2, h3]
set_option maxRecDepth 100000 in
theorem WorstMinute_i (A : Option Addr) (c : Nat) (xs : List Dg) (a : Int) (w : World) (hn : (xs.length : Int) ≤ 1048576) (hI : Recs encD 4 w.heap.size w A xs) :
    Calls Try.prog 37 #[.slice A xs.length c, .int .i64 a] w fun e w' => e = .returned (.tuple #[.int .i64 (worstF xs a).1, .int .i64 (worstF xs a).2.1, .int .i64 (worstF xs a).2.2]) ∧ Below w.heap.size w w' := by
  have HL := Lib.hid (ValidDustings_i A c xs w.heap.size w (by omega) hI (Nat.le_refl _))
  have J := Lib.hid hI
  clear hI
  obtain ⟨R, hR⟩ : ∃ R, R = worstF xs a := ⟨_, rfl⟩
  rw [← hR]
  have HR := Lib.hid hR
  clear hR
  cases hv : dsB xs
  · rw [hv] at HL
    have HF : Hid (worstF xs a = (0, 0, 1)) := Lib.hid (by unfold worstF; rw [hv]; rfl)
    clear hv
    go_enter Try.func37, Try.ntmps37
    go_wp2_with fail
    refine HL.out.mono ?_
    rintro e w1 ⟨rfl, hb⟩
    go_wp2
    go_ret3
    exact ⟨ret_iii (by rw [HR.out, HF.out]), hb⟩
  · rw [hv] at HL
    have HV := Lib.hid hv
    cases h1 : inB a 0 23
    · have HF : Hid (worstF xs a = (0, 0, 2)) := Lib.hid (by unfold worstF; rw [hv, h1]; rfl)
      clear hv
      go_enter Try.func37, Try.ntmps37
      go_wp2_with fail
      refine HL.out.mono ?_
      rintro e w1 ⟨rfl, hb⟩
      go_wp2_with (go_at_call 51; refine (within_any _ _ _ _).mono ?_; rintro e w' ⟨rfl, rfl⟩)
      go_ret3
      exact ⟨ret_iii (by rw [HR.out, HF.out]), hb⟩
    · have HF : Hid (worstF xs a = ((worstN xs a 1440).1, (worstN xs a 1440).2, 0)) := Lib.hid (by unfold worstF; rw [hv, h1]; rfl)
      have HB := Lib.hid (worstN_bd hv a)
      have HD := Lib.hid (dustA_bd hv a)
      clear hv
      go_enter Try.func37, Try.ntmps37
      go_wp2_with fail
      refine HL.out.mono ?_
      rintro e w1 ⟨rfl, hb⟩
      go_wp2_with (go_at_call 51; refine (within_any _ _ _ _).mono ?_; rintro e w' ⟨rfl, rfl⟩)
      go_loopw [7, 8, 19] (fun b m i wr => ∃ k : Nat, k ≤ 1440 ∧ i = .int .i64 k ∧ b = .int .i64 (worstN xs a k).1 ∧ m = .int .i64 (worstN xs a k).2 ∧ Below w.heap.size w wr) (fun _ _ i _ => 1440 - (intOf i).toNat)
      case atStart => exact ⟨0, Nat.zero_le _, rfl, rfl, rfl, hb⟩
      case round =>
        obtain ⟨k, hk, rfl, rfl, rfl, hbr⟩ := hrel
        obtain ⟨b1, b2, b3, b4⟩ := HB.out k
        by_cases hlt : k < 1440
        · have HC := Lib.hid (dustAt_any A c xs a k w.heap.size wr (J.out.below hbr) hbr.size HV.out)
          obtain ⟨d1, d2⟩ := HD.out k
          by_cases hc : (worstN xs a k).2 < dustA xs a k
          · have hs : worstN xs a (k + 1) = ((k : Int), dustA xs a k) := by rw [worstN, if_pos hc]
            have HS := Lib.hid hs
            clear hs
            generalize dustA xs a k = y at *
            generalize worstN xs a k = p at *
            go_wp2_with (go_at_call 69; refine HC.out.mono ?_; rintro e w' ⟨rfl, hb2⟩)
            go_roundw
            case rel => exact ⟨k + 1, by omega, by go_num, by rw [HS.out], by rw [HS.out], hbr.trans (hb2.mono hbr.size)⟩
            case measure => simp [intOf]; omega
          · have hs : worstN xs a (k + 1) = worstN xs a k := by rw [worstN, if_neg hc]
            have HS := Lib.hid hs
            clear hs
            generalize dustA xs a k = y at *
            generalize worstN xs a k = p at *
            go_wp2_with (go_at_call 69; refine HC.out.mono ?_; rintro e w' ⟨rfl, hb2⟩)
            go_roundw
            case rel => exact ⟨k + 1, by omega, by go_num, by rw [HS.out], by rw [HS.out], hbr.trans (hb2.mono hbr.size)⟩
            case measure => simp [intOf]; omega
        · obtain rfl : k = 1440 := by omega
          generalize worstN xs a 1440 = p at *
          go_wp2
          go_ret3
          exact ⟨ret_iii (by rw [HR.out, HF.out]), hbr⟩
set_option maxRecDepth 100000 in
theorem WorstMinute_s (A : Option Addr) (c : Nat) (xs : List Dg) (a : Int) (w : World) (hn : (xs.length : Int) ≤ 1048576) (hI : Recs encD 4 w.heap.size w A xs) :
    Calls Try.prog 36 #[.slice A xs.length c, .int .i64 a] w fun e w' => e = .returned (.tuple #[.int .i64 (worstF xs a).1, .int .i64 (worstF xs a).2.1, .int .i64 (worstF xs a).2.2]) ∧ Below w.heap.size w w' := by
  have HL := Lib.hid (l14Ok_any A c xs w.heap.size w (by omega) hI (Nat.le_refl _))
  have J := Lib.hid hI
  clear hI
  obtain ⟨R, hR⟩ : ∃ R, R = worstF xs a := ⟨_, rfl⟩
  rw [← hR]
  have HR := Lib.hid hR
  clear hR
  cases hv : dsB xs
  · rw [hv] at HL
    have HF : Hid (worstF xs a = (0, 0, 1)) := Lib.hid (by unfold worstF; rw [hv]; rfl)
    clear hv
    go_enter Try.func36, Try.ntmps36
    go_wp2_with fail
    refine HL.out.mono ?_
    rintro e w1 ⟨rfl, hb⟩
    go_wp2
    go_ret3
    exact ⟨ret_iii (by rw [HR.out, HF.out]), hb⟩
  · rw [hv] at HL
    have HV := Lib.hid hv
    cases h1 : inB a 0 23
    · have HF : Hid (worstF xs a = (0, 0, 2)) := Lib.hid (by unfold worstF; rw [hv, h1]; rfl)
      clear hv
      go_enter Try.func36, Try.ntmps36
      go_wp2_with fail
      refine HL.out.mono ?_
      rintro e w1 ⟨rfl, hb⟩
      go_wp2_with (go_at_call 67; refine (eqb (l14Airway_any _ _) h1).mono ?_; rintro e w' ⟨rfl, rfl⟩)
      go_ret3
      exact ⟨ret_iii (by rw [HR.out, HF.out]), hb⟩
    · have HF : Hid (worstF xs a = ((worstN xs a 1440).1, (worstN xs a 1440).2, 0)) := Lib.hid (by unfold worstF; rw [hv, h1]; rfl)
      have HB := Lib.hid (worstN_bd hv a)
      have HD := Lib.hid (dustA_bd hv a)
      clear hv
      go_enter Try.func36, Try.ntmps36
      go_wp2_with fail
      refine HL.out.mono ?_
      rintro e w1 ⟨rfl, hb⟩
      go_wp2_with (go_at_call 67; refine (eqb (l14Airway_any _ _) h1).mono ?_; rintro e w' ⟨rfl, rfl⟩)
      go_loop [7, 8, 9] (fun b m i => ∃ k : Nat, k ≤ 1440 ∧ i = .int .i64 k ∧ b = .int .i64 (worstN xs a k).1 ∧ m = .int .i64 (worstN xs a k).2) (fun _ _ i => 1440 - (intOf i).toNat)
      case atStart => exact ⟨0, Nat.zero_le _, rfl, rfl, rfl⟩
      case round =>
        obtain ⟨k, hk, rfl, rfl, rfl⟩ := hrel
        obtain ⟨b1, b2, b3, b4⟩ := HB.out k
        by_cases hlt : k < 1440
        · have HC := Lib.hid (l14At_any A c xs a k w.heap.size w1 (J.out.below hb) HV.out)
          obtain ⟨d1, d2⟩ := HD.out k
          by_cases hc : (worstN xs a k).2 < dustA xs a k
          · have hs : worstN xs a (k + 1) = ((k : Int), dustA xs a k) := by rw [worstN, if_pos hc]
            have HS := Lib.hid hs
            clear hs
            generalize dustA xs a k = y at *
            generalize worstN xs a k = p at *
            go_wp2_with (go_at_call 68; refine HC.out.mono ?_; rintro e w' ⟨rfl, rfl⟩)
            go_round
            case rel => exact ⟨k + 1, by omega, by go_num, by rw [HS.out], by rw [HS.out]⟩
            case measure => simp [intOf]; omega
          · have hs : worstN xs a (k + 1) = worstN xs a k := by rw [worstN, if_neg hc]
            have HS := Lib.hid hs
            clear hs
            generalize dustA xs a k = y at *
            generalize worstN xs a k = p at *
            go_wp2_with (go_at_call 68; refine HC.out.mono ?_; rintro e w' ⟨rfl, rfl⟩)
            go_round
            case rel => exact ⟨k + 1, by omega, by go_num, by rw [HS.out], by rw [HS.out]⟩
            case measure => simp [intOf]; omega
        · obtain rfl : k = 1440 := by omega
          generalize worstN xs a 1440 = p at *
          go_wp2
          go_ret3
          exact ⟨ret_iii (by rw [HR.out, HF.out]), hb⟩
set_option maxRecDepth 100000 in
theorem fnExactWorstMinute_walk {w : World} (A0 : Option Addr) (c0 : Nat) (xs0 : List Dg) (I0 : Recs encD 4 w.heap.size w A0 xs0) (_ : FitsD xs0) (l0 : xs0.length ≤ maxLen) (a0 : Int) (_ : -9223372036854775808 ≤ a0 ∧ a0 ≤ 9223372036854775807) :
    Calls Try.prog 9 #[.slice A0 xs0.length c0, .int .i64 a0] w fun e w' => e = .returned (.bool true) ∧ Below w.heap.size w w' := by
  by_cases hn0 : (xs0.length : Int) ≤ 1048576
  rotate_left
  · have HZ := Lib.hid (fun W => szDustingS_no A0 c0 xs0.length 1048576 W (by omega) (by omega) l0 (by omega))
    go_enter Try.func9, Try.ntmps9
    go_wp2_with (go_at_call 17; refine (HZ.out _).mono ?_; rintro e w' ⟨rfl, rfl⟩)
    go_ret
    exact ⟨rfl, Below.refl _ _⟩
  have HZ := Lib.hid (fun W => szDustingS_yes A0 c0 xs0.length 1048576 W (by omega) (by omega))
  have HI := Lib.hid I0
  clear I0
  go_enter Try.func9, Try.ntmps9
  have be0 := Below.refl w.heap.size w
  go_wp2_with (go_at_call 17; refine (HZ.out _).mono ?_; rintro e w' ⟨rfl, rfl⟩)
  refine (toDustingS_any A0 c0 xs0 w.heap.size _ (by omega) (HI.out.below be0) be0.size).mono ?_
  rintro e w1 ⟨rfl, ho1, hb1⟩
  have be1 := be0.trans (hb1.mono be0.size)
  go_wp2_with fail
  refine (WorstMinute_s _ _ xs0 a0 _ (by omega) ((ho1).rows encD_len)).mono ?_
  rintro e w2 ⟨rfl, hb2⟩
  have be2 := be1.trans (hb2.mono be1.size)
  go_wp2_with fail
  refine (toDustingS_any A0 c0 xs0 w.heap.size _ (by omega) (HI.out.below be2) be2.size).mono ?_
  rintro e w3 ⟨rfl, ho3, hb3⟩
  have be3 := be2.trans (hb3.mono be2.size)
  go_wp2_with fail
  refine (WorstMinute_i _ _ xs0 a0 _ (by omega) ((ho3).rows encD_len)).mono ?_
  rintro e w4 ⟨rfl, hb4⟩
  have be4 := be3.trans (hb4.mono be3.size)
  go_wp2_with fail
  refine (toDustingS_any A0 c0 xs0 w.heap.size _ (by omega) (HI.out.below be4) be4.size).mono ?_
  rintro e w5 ⟨rfl, ho5, hb5⟩
  have be5 := be4.trans (hb5.mono be4.size)
  go_wp2_with fail
  refine (eqDustingS_yes _ _ _ _ xs0 _ _ _ (by omega) ((ho3|>.later hb4 |>.later hb5 ).rows encD_len) ((ho5).rows encD_len) (Nat.le_refl _) (Nat.le_refl _)).mono ?_
  rintro e w6 ⟨rfl, hb6⟩
  have be6 := be5.trans (hb6.mono be5.size)
  go_wp2_with fail
  go_ret
  exact ⟨rfl, be6⟩
/-- The dust of the first k minutes of a stay. -/
def stayN (xs : List Dg) (a f : Int) : Nat → Int | 0 => 0 | k + 1 => stayN xs a f k + dustA xs a (f + k)
theorem stayN_bd {xs : List Dg} (h : dsB xs = true) (a f : Int) : ∀ k : Nat, 0 ≤ stayN xs a f k ∧ stayN xs a f k ≤ 12000000 * k
  | 0 => by simp [stayN]
  | k + 1 => by
    obtain ⟨h1, h2⟩ := stayN_bd h a f k
    obtain ⟨h3, h4⟩ := dustA_bd h a (f + k)
    unfold stayN
    omega
def stayM (xs : List Dg) (a f l : Int) : Nat := stopAt (fun k => decide (stayN xs a f (k + 1) ≤ l)) (1440 - f).toNat
def stayF (xs : List Dg) (a f l : Int) : Int × Int := if dsB xs then (if inB a 0 23 && (inB f 0 1439 && decide (0 ≤ l)) then ((stayM xs a f l : Nat), 0) else (0, 2)) else (0, 1)
set_option maxRecDepth 100000 in
theorem LongestStay_i (A : Option Addr) (c : Nat) (xs : List Dg) (a f l : Int) (w : World) (hn : (xs.length : Int) ≤ 1048576) (hI : Recs encD 4 w.heap.size w A xs) :
    Calls Try.prog 39 #[.slice A xs.length c, .int .i64 a, .int .i64 f, .int .i64 l] w fun e w' => e = .returned (.tuple #[.int .i64 (stayF xs a f l).1, .int .i64 (stayF xs a f l).2]) ∧ Below w.heap.size w w' := by
  have HL := Lib.hid (ValidDustings_i A c xs w.heap.size w (by omega) hI (Nat.le_refl _))
  have J := Lib.hid hI
  clear hI
  obtain ⟨R, hR⟩ : ∃ R, R = stayF xs a f l := ⟨_, rfl⟩
  rw [← hR]
  have HR := Lib.hid hR
  clear hR
  cases hv : dsB xs
  · rw [hv] at HL
    have HF : Hid (stayF xs a f l = (0, 1)) := Lib.hid (by unfold stayF; rw [hv]; rfl)
    clear hv
    go_enter Try.func39, Try.ntmps39
    go_wp2_with fail
    refine HL.out.mono ?_
    rintro e w1 ⟨rfl, hb⟩
    go_wp2
    go_ret2
    exact ⟨ret_ii (by rw [HR.out, HF.out]), hb⟩
  · rw [hv] at HL
    have HV := Lib.hid hv
    by_cases hall : (inB a 0 23 && (inB f 0 1439 && decide (0 ≤ l))) = true
    rotate_left
    · have HF : Hid (stayF xs a f l = (0, 2)) := Lib.hid (by unfold stayF; rw [hv, if_neg hall]; rfl)
      cases h1 : inB a 0 23
      · clear hv hall
        go_enter Try.func39, Try.ntmps39
        go_wp2_with fail
        refine HL.out.mono ?_
        rintro e w1 ⟨rfl, hb⟩
        go_wp2_with (go_at_call 51; refine (within_any _ _ _ _).mono ?_; rintro e w' ⟨rfl, rfl⟩)
        go_ret2
        exact ⟨ret_ii (by rw [HR.out, HF.out]), hb⟩
      · cases h2 : inB f 0 1439
        · clear hv hall
          go_enter Try.func39, Try.ntmps39
          go_wp2_with fail
          refine HL.out.mono ?_
          rintro e w1 ⟨rfl, hb⟩
          go_wp2_with (go_at_call 51; refine (within_any _ _ _ _).mono ?_; rintro e w' ⟨rfl, rfl⟩)
          go_ret2
          exact ⟨ret_ii (by rw [HR.out, HF.out]), hb⟩
        · have hl : l < 0 := by
            by_cases h : 0 ≤ l
            · rw [h1, h2, decide_eq_true h] at hall; simp at hall
            · omega
          clear hv hall
          go_enter Try.func39, Try.ntmps39
          go_wp2_with fail
          refine HL.out.mono ?_
          rintro e w1 ⟨rfl, hb⟩
          go_wp2_with (go_at_call 51; refine (within_any _ _ _ _).mono ?_; rintro e w' ⟨rfl, rfl⟩)
          go_ret2
          exact ⟨ret_ii (by rw [HR.out, HF.out]), hb⟩
    · have HF : Hid (stayF xs a f l = (((stayM xs a f l : Nat) : Int), 0)) := Lib.hid (by unfold stayF; rw [hv, if_pos hall]; rfl)
      simp only [Bool.and_eq_true] at hall
      obtain ⟨h1, h2, h3⟩ := hall
      have hl := of_decide_eq_true h3
      obtain ⟨f1, f2⟩ := inB_iff.1 h2
      obtain ⟨m1, m2, m3⟩ := stopAt_spec (fun k => decide (stayN xs a f (k + 1) ≤ l)) (1440 - f).toNat
      have HM : Hid (stayM xs a f l = stopAt (fun k => decide (stayN xs a f (k + 1) ≤ l)) (1440 - f).toNat) := Lib.hid rfl
      generalize stopAt (fun k => decide (stayN xs a f (k + 1) ≤ l)) (1440 - f).toNat = m at *
      have M2 := Lib.hid m2
      have M3 := Lib.hid m3
      have HB := Lib.hid (stayN_bd hv a f)
      have HD := Lib.hid (dustA_bd hv a)
      clear hv m2 m3 h3
      go_enter Try.func39, Try.ntmps39
      go_wp2_with fail
      refine HL.out.mono ?_
      rintro e w1 ⟨rfl, hb⟩
      go_wp2_with (go_at_call 51; refine (within_any _ _ _ _).mono ?_; rintro e w' ⟨rfl, rfl⟩)
      go_loopw [10, 11] (fun s t wr => ∃ k : Nat, k ≤ m ∧ t = .int .i64 (f + k) ∧ s = .int .i64 (stayN xs a f k) ∧ Below w.heap.size w wr) (fun _ t _ => (1440 - intOf t).toNat)
      case atStart => exact ⟨0, Nat.zero_le _, by go_num, rfl, hb⟩
      case round =>
        obtain ⟨k, hk, rfl, rfl, hbr⟩ := hrel
        obtain ⟨s1, s2⟩ := HB.out k
        by_cases hlt : k < (1440 - f).toNat
        · have HC := Lib.hid (dustAt_any A c xs a (f + k) w.heap.size wr (J.out.below hbr) hbr.size HV.out)
          obtain ⟨d1, d2⟩ := HD.out (f + k)
          have hs : stayN xs a f (k + 1) = stayN xs a f k + dustA xs a (f + k) := rfl
          have HS := Lib.hid hs
          by_cases hkm : k < m
          · have hc : stayN xs a f k + dustA xs a (f + k) ≤ l := by rw [← hs]; exact of_decide_eq_true (M2.out k hkm)
            clear hs
            generalize dustA xs a (f + k) = y at *
            generalize stayN xs a f k = s at *
            go_wp2_with (go_at_call 69; refine HC.out.mono ?_; rintro e w' ⟨rfl, hb2⟩)
            go_roundw
            case rel => exact ⟨k + 1, by omega, by go_num, by rw [HS.out], hbr.trans (hb2.mono hbr.size)⟩
            case measure => simp [intOf]; omega
          · obtain rfl : m = k := by omega
            have hc : l < stayN xs a f m + dustA xs a (f + m) := by rw [← hs]; have := of_decide_eq_false (M3.out hlt); omega
            clear hs
            generalize dustA xs a (f + m) = y at *
            generalize stayN xs a f m = s at *
            go_wp2_with (go_at_call 69; refine HC.out.mono ?_; rintro e w' ⟨rfl, hb2⟩)
            go_ret2
            exact ⟨ret_ii (by rw [HR.out, HF.out, HM.out, show f + (m : Int) - f = m by omega]), hbr.trans (hb2.mono hbr.size)⟩
        · have hk2 : (1440 : Int) ≤ f + k := by omega
          generalize stayN xs a f k = s at *
          go_wp2
          go_ret2
          exact ⟨ret_ii (by rw [HR.out, HF.out, HM.out, show f + (k : Int) - f = m by omega]), hbr⟩
set_option maxRecDepth 100000 in
theorem LongestStay_s (A : Option Addr) (c : Nat) (xs : List Dg) (a f l : Int) (w : World) (hn : (xs.length : Int) ≤ 1048576) (hI : Recs encD 4 w.heap.size w A xs) :
    Calls Try.prog 38 #[.slice A xs.length c, .int .i64 a, .int .i64 f, .int .i64 l] w fun e w' => e = .returned (.tuple #[.int .i64 (stayF xs a f l).1, .int .i64 (stayF xs a f l).2]) ∧ Below w.heap.size w w' := by
  have HL := Lib.hid (l14Ok_any A c xs w.heap.size w (by omega) hI (Nat.le_refl _))
  have J := Lib.hid hI
  clear hI
  obtain ⟨R, hR⟩ : ∃ R, R = stayF xs a f l := ⟨_, rfl⟩
  rw [← hR]
  have HR := Lib.hid hR
  clear hR
  cases hv : dsB xs
  · rw [hv] at HL
    have HF : Hid (stayF xs a f l = (0, 1)) := Lib.hid (by unfold stayF; rw [hv]; rfl)
    clear hv
    go_enter Try.func38, Try.ntmps38
    go_wp2_with fail
    refine HL.out.mono ?_
    rintro e w1 ⟨rfl, hb⟩
    go_wp2
    go_ret2
    exact ⟨ret_ii (by rw [HR.out, HF.out]), hb⟩
  · rw [hv] at HL
    have HV := Lib.hid hv
    by_cases hall : (inB a 0 23 && (inB f 0 1439 && decide (0 ≤ l))) = true
    rotate_left
    · have HF : Hid (stayF xs a f l = (0, 2)) := Lib.hid (by unfold stayF; rw [hv, if_neg hall]; rfl)
      cases h1 : inB a 0 23
      · clear hv hall
        go_enter Try.func38, Try.ntmps38
        go_wp2_with fail
        refine HL.out.mono ?_
        rintro e w1 ⟨rfl, hb⟩
        go_wp2_with (first | (go_at_call 67; refine (l14Airway_any _ _).mono ?_; rintro e w' ⟨rfl, rfl⟩) | (go_at_call 48; refine (l00In_any _ _ _ _).mono ?_; rintro e w' ⟨rfl, rfl⟩))
        go_ret2
        exact ⟨ret_ii (by rw [HR.out, HF.out]), hb⟩
      · cases h2 : inB f 0 1439
        · clear hv hall
          go_enter Try.func38, Try.ntmps38
          go_wp2_with fail
          refine HL.out.mono ?_
          rintro e w1 ⟨rfl, hb⟩
          go_wp2_with (first | (go_at_call 67; refine (l14Airway_any _ _).mono ?_; rintro e w' ⟨rfl, rfl⟩) | (go_at_call 48; refine (l00In_any _ _ _ _).mono ?_; rintro e w' ⟨rfl, rfl⟩))
          go_ret2
          exact ⟨ret_ii (by rw [HR.out, HF.out]), hb⟩
        · have hl : l < 0 := by
            by_cases h : 0 ≤ l
            · rw [h1, h2, decide_eq_true h] at hall; simp at hall
            · omega
          clear hv hall
          go_enter Try.func38, Try.ntmps38
          go_wp2_with fail
          refine HL.out.mono ?_
          rintro e w1 ⟨rfl, hb⟩
          go_wp2_with (first | (go_at_call 67; refine (l14Airway_any _ _).mono ?_; rintro e w' ⟨rfl, rfl⟩) | (go_at_call 48; refine (l00In_any _ _ _ _).mono ?_; rintro e w' ⟨rfl, rfl⟩))
          go_ret2
          exact ⟨ret_ii (by rw [HR.out, HF.out]), hb⟩
    · have HF : Hid (stayF xs a f l = (((stayM xs a f l : Nat) : Int), 0)) := Lib.hid (by unfold stayF; rw [hv, if_pos hall]; rfl)
      simp only [Bool.and_eq_true] at hall
      obtain ⟨h1, h2, h3⟩ := hall
      have hl := of_decide_eq_true h3
      obtain ⟨f1, f2⟩ := inB_iff.1 h2
      obtain ⟨m1, m2, m3⟩ := stopAt_spec (fun k => decide (stayN xs a f (k + 1) ≤ l)) (1440 - f).toNat
      have HM : Hid (stayM xs a f l = stopAt (fun k => decide (stayN xs a f (k + 1) ≤ l)) (1440 - f).toNat) := Lib.hid rfl
      generalize stopAt (fun k => decide (stayN xs a f (k + 1) ≤ l)) (1440 - f).toNat = m at *
      have M2 := Lib.hid m2
      have M3 := Lib.hid m3
      have HB := Lib.hid (stayN_bd hv a f)
      have HD := Lib.hid (dustA_bd hv a)
      clear hv m2 m3 h3
      go_enter Try.func38, Try.ntmps38
      go_wp2_with fail
      refine HL.out.mono ?_
      rintro e w1 ⟨rfl, hb⟩
      go_wp2_with (first | (go_at_call 67; refine (l14Airway_any _ _).mono ?_; rintro e w' ⟨rfl, rfl⟩) | (go_at_call 48; refine (l00In_any _ _ _ _).mono ?_; rintro e w' ⟨rfl, rfl⟩))
      go_loop [10, 11] (fun s t => ∃ k : Nat, k ≤ m ∧ t = .int .i64 (f + k) ∧ s = .int .i64 (stayN xs a f k)) (fun _ t => (1440 - intOf t).toNat)
      case atStart => exact ⟨0, Nat.zero_le _, by go_num, rfl⟩
      case round =>
        obtain ⟨k, hk, rfl, rfl⟩ := hrel
        obtain ⟨s1, s2⟩ := HB.out k
        by_cases hlt : k < (1440 - f).toNat
        · have HC := Lib.hid (l14At_any A c xs a (f + k) w.heap.size w1 (J.out.below hb) HV.out)
          obtain ⟨d1, d2⟩ := HD.out (f + k)
          have hs : stayN xs a f (k + 1) = stayN xs a f k + dustA xs a (f + k) := rfl
          have HS := Lib.hid hs
          by_cases hkm : k < m
          · have hc : stayN xs a f k + dustA xs a (f + k) ≤ l := by rw [← hs]; exact of_decide_eq_true (M2.out k hkm)
            clear hs
            generalize dustA xs a (f + k) = y at *
            generalize stayN xs a f k = s at *
            go_wp2_with (go_at_call 68; refine HC.out.mono ?_; rintro e w' ⟨rfl, rfl⟩)
            go_round
            case rel => exact ⟨k + 1, by omega, by go_num, by rw [HS.out]⟩
            case measure => simp [intOf]; omega
          · obtain rfl : m = k := by omega
            have hc : l < stayN xs a f m + dustA xs a (f + m) := by rw [← hs]; have := of_decide_eq_false (M3.out hlt); omega
            clear hs
            generalize dustA xs a (f + m) = y at *
            generalize stayN xs a f m = s at *
            go_wp2_with (go_at_call 68; refine HC.out.mono ?_; rintro e w' ⟨rfl, rfl⟩)
            go_ret2
            exact ⟨ret_ii (by rw [HR.out, HF.out, HM.out, show f + (m : Int) - f = m by omega]), hb⟩
        · have hk2 : (1440 : Int) ≤ f + k := by omega
          generalize stayN xs a f k = s at *
          go_wp2
          go_ret2
          exact ⟨ret_ii (by rw [HR.out, HF.out, HM.out, show f + (k : Int) - f = m by omega]), hb⟩
set_option maxRecDepth 100000 in
theorem fnExactLongestStay_walk {w : World} (A0 : Option Addr) (c0 : Nat) (xs0 : List Dg) (I0 : Recs encD 4 w.heap.size w A0 xs0) (_ : FitsD xs0) (l0 : xs0.length ≤ maxLen) (a0 : Int) (_ : -9223372036854775808 ≤ a0 ∧ a0 ≤ 9223372036854775807) (a1 : Int) (_ : -9223372036854775808 ≤ a1 ∧ a1 ≤ 9223372036854775807) (a2 : Int) (_ : -9223372036854775808 ≤ a2 ∧ a2 ≤ 9223372036854775807) :
    Calls Try.prog 10 #[.slice A0 xs0.length c0, .int .i64 a0, .int .i64 a1, .int .i64 a2] w fun e w' => e = .returned (.bool true) ∧ Below w.heap.size w w' := by
  by_cases hn0 : (xs0.length : Int) ≤ 1048576
  rotate_left
  · have HZ := Lib.hid (fun W => szDustingS_no A0 c0 xs0.length 1048576 W (by omega) (by omega) l0 (by omega))
    go_enter Try.func10, Try.ntmps10
    go_wp2_with (go_at_call 17; refine (HZ.out _).mono ?_; rintro e w' ⟨rfl, rfl⟩)
    go_ret
    exact ⟨rfl, Below.refl _ _⟩
  have HZ := Lib.hid (fun W => szDustingS_yes A0 c0 xs0.length 1048576 W (by omega) (by omega))
  have HI := Lib.hid I0
  clear I0
  go_enter Try.func10, Try.ntmps10
  have be0 := Below.refl w.heap.size w
  go_wp2_with (go_at_call 17; refine (HZ.out _).mono ?_; rintro e w' ⟨rfl, rfl⟩)
  refine (toDustingS_any A0 c0 xs0 w.heap.size _ (by omega) (HI.out.below be0) be0.size).mono ?_
  rintro e w1 ⟨rfl, ho1, hb1⟩
  have be1 := be0.trans (hb1.mono be0.size)
  go_wp2_with fail
  refine (LongestStay_s _ _ xs0 a0 a1 a2 _ (by omega) ((ho1).rows encD_len)).mono ?_
  rintro e w2 ⟨rfl, hb2⟩
  have be2 := be1.trans (hb2.mono be1.size)
  go_wp2_with fail
  refine (toDustingS_any A0 c0 xs0 w.heap.size _ (by omega) (HI.out.below be2) be2.size).mono ?_
  rintro e w3 ⟨rfl, ho3, hb3⟩
  have be3 := be2.trans (hb3.mono be2.size)
  go_wp2_with fail
  refine (LongestStay_i _ _ xs0 a0 a1 a2 _ (by omega) ((ho3).rows encD_len)).mono ?_
  rintro e w4 ⟨rfl, hb4⟩
  have be4 := be3.trans (hb4.mono be3.size)
  go_wp2_with fail
  refine (toDustingS_any A0 c0 xs0 w.heap.size _ (by omega) (HI.out.below be4) be4.size).mono ?_
  rintro e w5 ⟨rfl, ho5, hb5⟩
  have be5 := be4.trans (hb5.mono be4.size)
  go_wp2_with fail
  refine (eqDustingS_yes _ _ _ _ xs0 _ _ _ (by omega) ((ho3|>.later hb4 |>.later hb5 ).rows encD_len) ((ho5).rows encD_len) (Nat.le_refl _) (Nat.le_refl _)).mono ?_
  rintro e w6 ⟨rfl, hb6⟩
  have be6 := be5.trans (hb6.mono be5.size)
  go_wp2_with fail
  go_ret
  exact ⟨rfl, be6⟩
end Go.Proofs.Ytmfbdngibbkciaa
