/- Hours of a day that differ from the hour ahead; the hottest junction: the program's and the reference's; and the walks of the laws. Conditions: the bounds that each theorem names. -/
import Derived.Test.YtnjplfcmojeedaaBase
import Derived.Test.YtnjplfcmojeedaaList
import Derived.Test.YtnjplfcmojeedaaHof
import Derived.IntWalk
import Derived.BigQuiet
namespace Go.Proofs.Ytnjplfcmojeedaa
open Go.RowKit
open Pl
theorem ret_bool {a b : Bool} (h : a = b) : Ending.returned (.bool a) = .returned (.bool b) := by rw [h]
/-- The number of places up to k whose number is not that of the place ahead. -/
def swN (xs : List Int) : Nat → Int | 0 => 0 | k + 1 => swN xs k + (if xs.getD (k + 1) 0 = xs.getD k 0 then 0 else 1)
theorem swN_bd (xs : List Int) (k : Nat) : 0 ≤ swN xs k ∧ swN xs k ≤ k := by
  induction k with
  | zero => simp [swN]
  | succ k ih => unfold swN; split <;> omega
theorem getD_at {xs : List Int} {k : Nat} (h : k < xs.length) : xs.getD k 0 = xs[k] := by simp [List.getD, h]
def switchF (xs : List Int) : Int × Int := if decide (xs.length = 24) && allIn xs 0 7 then (swN xs 23, 0) else (0, 2)
theorem anyDay_any (A : Option Addr) (c n : Nat) (xs : List Int) (B : Nat) (w : World) (hn : (xs.length : Int) ≤ 1048576) (hx : n = xs.length) (hI : Ints B w A xs) (hB : B ≤ w.heap.size) (hT : Fits xs) :
    Calls Try.prog 70 #[.slice A n c] w fun e w' => e = .returned (.bool (decide (xs.length = 24) && allIn xs 0 7)) ∧ Below w.heap.size w w' := by
  subst hx
  have W := Lib.hid (allWithin_any A c xs 0 7 B w (by omega) hI hB hT)
  clear hI hT
  by_cases h : xs.length = 24
  · rw [h] at W ⊢
    clear hn h
    go_enter Try.func70, Try.ntmps70
    go_wp2_with fail
    refine W.out.mono ?_
    rintro e w1 ⟨rfl, hb1⟩
    go_wp2
    go_ret
    exact ⟨by simp, hb1⟩
  · have e : decide (xs.length = 24) = false := by simp [h]
    have e' : ((xs.length : Int) == 24) = false := by simp; omega
    rw [e]
    clear e h
    go_enter Try.func70, Try.ntmps70
    go_wp2
    go_ret
    exact ⟨by simp, Below.refl _ _⟩
theorem l22Hours_any (A : Option Addr) (c n : Nat) (xs : List Int) (B : Nat) (w : World) (hn : (xs.length : Int) ≤ 1048576) (hx : n = xs.length) (hI : Ints B w A xs) (_ : B ≤ w.heap.size) (_ : Fits xs) :
    Calls Try.prog 69 #[.slice A n c, .int .i64 7] w fun e w' => e = .returned (.bool (decide (xs.length = 24) && allIn xs 0 7)) ∧ Below w.heap.size w w' := by
  subst hx
  have J := Lib.hid hI
  clear hI
  rcases range_split xs 0 7 with ⟨h1, g1⟩ | ⟨h1, b, hb, gb, g1⟩
  · have G1 := Lib.hid g1
    rw [h1, Bool.and_true]
    clear h1 g1
    go_enter Try.func69, Try.ntmps69
    go_wp2
    go_loop [5] (fun i => ∃ k : Nat, k ≤ xs.length ∧ i = .int .i64 k) (fun i => xs.length + 1 - (intOf i).toNat)
    case atStart => exact ⟨0, Nat.zero_le _, rfl⟩
    case round =>
      obtain ⟨k, hk, rfl⟩ := hrel
      by_cases hlt : k < xs.length
      · obtain ⟨ad, rfl, _, hc⟩ := J.out.at_ (k := k) (Nat.lt_of_lt_of_le hlt (Nat.le_refl _))
        have hin := G1.out k hlt
        generalize xs[k]'(Nat.lt_of_lt_of_le hlt (Nat.le_refl _)) = x at *
        have hkl : (k : Int) < xs.length := by have h0 : xs.length ≤ xs.length := (Nat.le_refl _); omega
        go_wp2_with (go_at_call 54; refine (l00In_any _ _ _ _).mono ?_; rintro e w' ⟨rfl, rfl⟩)
        go_round
        case rel => exact ⟨k + 1, by omega, by go_num⟩
        case measure => simp [intOf]; omega
      · obtain rfl : k = xs.length := by omega
        go_wp2
        go_ret
        exact ⟨ret_bool (by rw [Bool.eq_iff_iff]; simp; omega), Below.refl _ _⟩
  · rw [h1, Bool.and_false]
    have G1 := Lib.hid g1
    have hbl : b ≤ xs.length := by omega
    clear h1 g1
    go_enter Try.func69, Try.ntmps69
    go_wp2
    go_loop [5] (fun i => ∃ k : Nat, k ≤ b ∧ i = .int .i64 k) (fun i => b + 1 - (intOf i).toNat)
    case atStart => exact ⟨0, Nat.zero_le _, rfl⟩
    case round =>
      obtain ⟨k, hk, rfl⟩ := hrel
      by_cases hlt : k < b
      · obtain ⟨ad, rfl, _, hc⟩ := J.out.at_ (k := k) (Nat.lt_of_lt_of_le hlt hbl)
        have hin := G1.out k hlt
        generalize xs[k]'(Nat.lt_of_lt_of_le hlt hbl) = x at *
        have hkl : (k : Int) < xs.length := by have h0 : b ≤ xs.length := hbl; omega
        go_wp2_with (go_at_call 54; refine (l00In_any _ _ _ _).mono ?_; rintro e w' ⟨rfl, rfl⟩)
        go_round
        case rel => exact ⟨k + 1, by omega, by go_num⟩
        case measure => simp [intOf]; omega
      · obtain rfl : b = k := by omega
        obtain ⟨ad, rfl, _, hc⟩ := J.out.at_ (k := b) hb
        generalize xs[b] = y at *
        go_wp2_with (go_at_call 54; refine (l00In_any _ _ _ _).mono ?_; rintro e w' ⟨rfl, rfl⟩)
        go_ret
        exact ⟨rfl, Below.refl _ _⟩
set_option maxRecDepth 100000 in
theorem SwitchesOf_i (A : Option Addr) (c : Nat) (xs : List Int) (w : World) (hn : (xs.length : Int) ≤ 1048576) (hI : Ints w.heap.size w A xs) (hT : Fits xs) :
    Calls Try.prog 25 #[.slice A xs.length c] w fun e w' => e = .returned (.tuple #[.int .i64 (switchF xs).1, .int .i64 (switchF xs).2]) ∧ Below w.heap.size w w' := by
  unfold switchF
  obtain ⟨n, hx⟩ : ∃ n, n = xs.length := ⟨_, rfl⟩
  have W := anyDay_any A c n xs w.heap.size w hn hx hI (Nat.le_refl _) hT
  have J := Lib.hid hI
  clear hI hT
  rw [← hx] at W ⊢
  cases h : decide (n = 24) && allIn xs 0 7
  · rw [h] at W
    have HW := Lib.hid W
    clear h hx W
    go_enter Try.func25, Try.ntmps25
    go_wp2_with fail
    refine HW.out.mono ?_
    rintro e w1 ⟨rfl, hb1⟩
    go_wp2
    go_ret2
    exact ⟨rfl, hb1⟩
  · rw [h] at W
    have hx24 : n = 24 := by simp at h; exact h.1
    subst hx24
    have HW := Lib.hid W
    have HX := Lib.hid hx
    have HS := Lib.hid (swN_bd xs)
    clear h hn hx W
    go_enter Try.func25, Try.ntmps25
    go_wp2_with fail
    refine HW.out.mono ?_
    rintro e w1 ⟨rfl, hb1⟩
    go_wp2
    go_loopw [4, 5] (fun s i wr => ∃ k : Nat, k ≤ 23 ∧ i = .int .i64 (k + 1 : Nat) ∧ s = .int .i64 (swN xs k) ∧ Below w.heap.size w wr) (fun _ i _ => 25 - (intOf i).toNat)
    case atStart => exact ⟨0, Nat.zero_le _, rfl, rfl, hb1⟩
    case round =>
      obtain ⟨k, hk, rfl, rfl, hb⟩ := hrel
      obtain ⟨s1, s2⟩ := HS.out k
      by_cases hlt : k < 23
      · obtain ⟨m, hm⟩ : ∃ m, m = k + 1 := ⟨_, rfl⟩
        obtain ⟨ad, rfl, _, hc1⟩ := (J.out.below hb).at_ (k := k) (by have := HX.out; omega)
        obtain ⟨ad', h', _, hc2⟩ := (J.out.below hb).at_ (k := k + 1) (by have := HX.out; omega)
        cases h'
        rw [← getD_at] at hc1 hc2
        rw [← hm] at hc2 ⊢
        have i0 : (0 : Int) ≤ (m : Int) := by omega
        have i1 : (m : Int) < 24 := by omega
        have j0 : (0 : Int) ≤ (k : Int) := by omega
        have j1 : (k : Int) < 24 := by omega
        by_cases hq : xs.getD (k + 1) 0 = xs.getD k 0
        · have hs : swN xs (k + 1) = swN xs k := by rw [swN, if_pos hq]; omega
          have hq' : (xs.getD m 0 != xs.getD k 0) = false := by rw [hm]; simp only [bne_eq_false_iff_eq]; exact hq
          have HSS := Lib.hid hs
          clear hs hq
          generalize xs.getD k 0 = x at *
          generalize xs.getD m 0 = y at *
          have HM := Lib.hid hm
          have hw : IntKind.i64.wrap ((m : Int) - 1) = (k : Int) := by rw [IntWalk.i64_in _ (by omega)]; omega
          clear hm
          go_wp2
          go_quiet (fail)
          clear hw
          go_wp2
          go_roundw
          case rel => exact ⟨k + 1, by omega, by have := HM.out; go_num, by rw [HSS.out], below_drewN hb _⟩
          case measure => simp [intOf]; omega
        · have hs : swN xs (k + 1) = swN xs k + 1 := by rw [swN, if_neg hq]
          have hq' : (xs.getD m 0 != xs.getD k 0) = true := by rw [hm]; simp only [bne_iff_ne]; exact hq
          have HSS := Lib.hid hs
          clear hs hq
          generalize xs.getD k 0 = x at *
          generalize xs.getD m 0 = y at *
          have HM := Lib.hid hm
          have hw : IntKind.i64.wrap ((m : Int) - 1) = (k : Int) := by rw [IntWalk.i64_in _ (by omega)]; omega
          clear hm
          go_wp2
          go_quiet (fail)
          clear hw
          go_wp2
          go_roundw
          case rel => exact ⟨k + 1, by omega, by have := HM.out; go_num, by rw [HSS.out], below_drewN hb _⟩
          case measure => simp [intOf]; omega
      · obtain rfl : k = 23 := by omega
        go_wp2
        go_ret2
        exact ⟨rfl, hb⟩
set_option maxRecDepth 100000 in
theorem SwitchesOf_s (A : Option Addr) (c : Nat) (xs : List Int) (w : World) (hn : (xs.length : Int) ≤ 1048576) (hI : Ints w.heap.size w A xs) (hT : Fits xs) :
    Calls Try.prog 23 #[.slice A xs.length c] w fun e w' => e = .returned (.tuple #[.int .i64 (switchF xs).1, .int .i64 (switchF xs).2]) ∧ Below w.heap.size w w' := by
  unfold switchF
  obtain ⟨n, hx⟩ : ∃ n, n = xs.length := ⟨_, rfl⟩
  have W := l22Hours_any A c n xs w.heap.size w hn hx hI (Nat.le_refl _) hT
  have J := Lib.hid hI
  clear hI hT
  rw [← hx] at W ⊢
  cases h : decide (n = 24) && allIn xs 0 7
  · rw [h] at W
    have HW := Lib.hid W
    clear h hx W
    go_enter Try.func23, Try.ntmps23
    go_wp2_with fail
    refine HW.out.mono ?_
    rintro e w1 ⟨rfl, hb1⟩
    go_wp2
    go_ret2
    exact ⟨rfl, hb1⟩
  · rw [h] at W
    have hx24 : n = 24 := by simp at h; exact h.1
    subst hx24
    have HW := Lib.hid W
    have HX := Lib.hid hx
    have HS := Lib.hid (swN_bd xs)
    clear h hn hx W
    go_enter Try.func23, Try.ntmps23
    go_wp2_with fail
    refine HW.out.mono ?_
    rintro e w1 ⟨rfl, hb1⟩
    go_wp2
    go_loopw [4, 5] (fun s i wr => ∃ k : Nat, k ≤ 23 ∧ i = .int .i64 (k + 1 : Nat) ∧ s = .int .i64 (swN xs k) ∧ Below w.heap.size w wr) (fun _ i _ => 25 - (intOf i).toNat)
    case atStart => exact ⟨0, Nat.zero_le _, rfl, rfl, hb1⟩
    case round =>
      obtain ⟨k, hk, rfl, rfl, hb⟩ := hrel
      obtain ⟨s1, s2⟩ := HS.out k
      by_cases hlt : k < 23
      · obtain ⟨m, hm⟩ : ∃ m, m = k + 1 := ⟨_, rfl⟩
        obtain ⟨ad, rfl, _, hc1⟩ := (J.out.below hb).at_ (k := k) (by have := HX.out; omega)
        obtain ⟨ad', h', _, hc2⟩ := (J.out.below hb).at_ (k := k + 1) (by have := HX.out; omega)
        cases h'
        rw [← getD_at] at hc1 hc2
        rw [← hm] at hc2 ⊢
        have i0 : (0 : Int) ≤ (m : Int) := by omega
        have i1 : (m : Int) < 24 := by omega
        have j0 : (0 : Int) ≤ (k : Int) := by omega
        have j1 : (k : Int) < 24 := by omega
        by_cases hq : xs.getD (k + 1) 0 = xs.getD k 0
        · have hs : swN xs (k + 1) = swN xs k := by rw [swN, if_pos hq]; omega
          have hq' : (xs.getD m 0 != xs.getD k 0) = false := by rw [hm]; simp only [bne_eq_false_iff_eq]; exact hq
          have HSS := Lib.hid hs
          clear hs hq
          generalize xs.getD k 0 = x at *
          generalize xs.getD m 0 = y at *
          have HM := Lib.hid hm
          have hw : IntKind.i64.wrap ((m : Int) - 1) = (k : Int) := by rw [IntWalk.i64_in _ (by omega)]; omega
          clear hm
          go_wp2
          go_quiet (fail)
          clear hw
          go_wp2
          go_roundw
          case rel => exact ⟨k + 1, by omega, by have := HM.out; go_num, by rw [HSS.out], below_drewN hb _⟩
          case measure => simp [intOf]; omega
        · have hs : swN xs (k + 1) = swN xs k + 1 := by rw [swN, if_neg hq]
          have hq' : (xs.getD m 0 != xs.getD k 0) = true := by rw [hm]; simp only [bne_iff_ne]; exact hq
          have HSS := Lib.hid hs
          clear hs hq
          generalize xs.getD k 0 = x at *
          generalize xs.getD m 0 = y at *
          have HM := Lib.hid hm
          have hw : IntKind.i64.wrap ((m : Int) - 1) = (k : Int) := by rw [IntWalk.i64_in _ (by omega)]; omega
          clear hm
          go_wp2
          go_quiet (fail)
          clear hw
          go_wp2
          go_roundw
          case rel => exact ⟨k + 1, by omega, by have := HM.out; go_num, by rw [HSS.out], below_drewN hb _⟩
          case measure => simp [intOf]; omega
      · obtain rfl : k = 23 := by omega
        go_wp2
        go_ret2
        exact ⟨rfl, hb⟩
theorem fnExactSwitchesOf_walk {w : World} (A0 : Option Addr) (c0 : Nat) (xs0 : List Int) (I0 : Ints w.heap.size w A0 xs0) (T0 : Fits xs0) (_ : xs0.length ≤ maxLen) :
    Calls Try.prog 6 #[.slice A0 xs0.length c0] w fun e w' => e = .returned (.bool true) ∧ Below w.heap.size w w' := by
  by_cases hn0 : (xs0.length : Int) ≤ 1048576
  rotate_left
  · go_enter Try.func6, Try.ntmps6
    go_wp2
    go_ret
    exact ⟨rfl, Below.refl _ _⟩
  go_enter Try.func6, Try.ntmps6
  have be0 := Below.refl w.heap.size w
  go_wp2_with fail
  refine (toInt64S_any A0 c0 xs0 w.heap.size _ (by omega) (I0.below be0) be0.size).mono ?_
  rintro e w1 ⟨rfl, ho1, hb1⟩
  have be1 := be0.trans (hb1.mono be0.size)
  go_wp2_with fail
  refine (SwitchesOf_s _ _ xs0 _ (by omega) (ho1).ints T0).mono ?_
  rintro e w2 ⟨rfl, hb2⟩
  have be2 := be1.trans (hb2.mono be1.size)
  go_wp2_with fail
  refine (toInt64S_any A0 c0 xs0 w.heap.size _ (by omega) (I0.below be2) be2.size).mono ?_
  rintro e w3 ⟨rfl, ho3, hb3⟩
  have be3 := be2.trans (hb3.mono be2.size)
  go_wp2_with fail
  refine (SwitchesOf_i _ _ xs0 _ (by omega) (ho3).ints T0).mono ?_
  rintro e w4 ⟨rfl, hb4⟩
  have be4 := be3.trans (hb4.mono be3.size)
  go_wp2_with fail
  refine (toInt64S_any A0 c0 xs0 w.heap.size _ (by omega) (I0.below be4) be4.size).mono ?_
  rintro e w5 ⟨rfl, ho5, hb5⟩
  have be5 := be4.trans (hb5.mono be4.size)
  go_wp2_with fail
  refine (dB (eqInt64S_yes _ _ _ _ xs0 _ _ _ (by omega) (ho3|>.later hb4 |>.later hb5 ).ints (ho5).ints)).mono ?_
  rintro e w6 ⟨rfl, hb6⟩
  have be6 := be5.trans (hb6.mono be5.size)
  go_wp2_with fail
  go_ret
  exact ⟨rfl, be6⟩
end Go.Proofs.Ytnjplfcmojeedaa
