/- The mean loss along a duct: the program's and the reference's; and the walk of the law. The sum of a list. Conditions: the bounds that each theorem names. -/
import Derived.Test.YtiiidloobfimcaaLoss
import Derived.Test.YtiiidloobfimcaaQuiet
namespace Go.Proofs.Ytiiidloobfimcaa
open Go.RowKit
open Pl
/-- The sum of the first k numbers of a list. -/
def totN (xs : List Int) : Nat → Int | 0 => 0 | k + 1 => totN xs k + xs.getD k 0
theorem sumOf_any (A : Option Addr) (c n : Nat) (xs : List Int) (B : Nat) (w : World) (hn : n ≤ 1048576) (hl : xs.length = n) (hI : Ints B w A xs) (hb : ∀ k, k ≤ n → -1000000000000000 ≤ totN xs k ∧ totN xs k ≤ 1000000000000000) :
    Calls Try.prog 87 #[.slice A n c] w fun e w' => e = .returned (.int .i64 (totN xs n)) ∧ w = w' := by
  have J := Lib.hid hI
  have HB := Lib.hid hb
  have HL := Lib.hid hl
  clear hI hb hl
  go_enter Try.func87, Try.ntmps87
  go_wp2
  go_loop [3, 8] (fun s i => ∃ k : Nat, k ≤ n ∧ i = .int .i64 k ∧ s = .int .i64 (totN xs k)) (fun _ i => n - (intOf i).toNat)
  case atStart => exact ⟨0, Nat.zero_le _, rfl, rfl⟩
  case round =>
    obtain ⟨k, hk, rfl, rfl⟩ := hrel
    obtain ⟨b1, b2⟩ := HB.out k hk
    by_cases hlt : k < n
    · obtain ⟨ad, rfl, _, hc⟩ := J.out.at_ (k := k) (by rw [HL.out]; exact hlt)
      rw [← getD_at] at hc
      obtain ⟨d1, d2⟩ := HB.out (k + 1) hlt
      have hs : totN xs (k + 1) = totN xs k + xs.getD k 0 := rfl
      rw [hs] at d1 d2
      have HS := Lib.hid hs
      clear hs
      generalize totN xs k = y at *
      generalize xs.getD k 0 = x at *
      go_wp2
      go_round
      case rel => exact ⟨k + 1, by omega, by go_num, by rw [HS.out]⟩
      case measure => simp [intOf]; omega
    · obtain rfl : k = n := by omega
      go_wp2
      go_ret
      exact ⟨rfl, rfl⟩
theorem lossF_getD (xs : List Int) {n k : Nat} (h : k < n) : (lossF xs n).getD k 0 = xs.getD k 0 - xs.getD (k + 1) 0 := by
  rw [getD_at (by rw [lossF_length]; exact h)]; simp [lossF]
theorem tot_loss (xs : List Int) (n : Nat) : ∀ k, k ≤ n → totN (lossF xs n) k = xs.getD 0 0 - xs.getD k 0
  | 0, _ => by simp [totN]
  | k + 1, h => by rw [totN, tot_loss xs n k (by omega), lossF_getD xs (by omega)]; omega
theorem getD_in {xs : List Int} (h : ∀ x ∈ xs, 0 ≤ x ∧ x ≤ 100000) (k : Nat) : 0 ≤ xs.getD k 0 ∧ xs.getD k 0 ≤ 100000 := by
  by_cases hk : k < xs.length
  · rw [getD_at hk]; exact h _ (List.getElem_mem hk)
  · simp [List.getD, List.getElem?_eq_none (by omega : xs.length ≤ k)]
theorem falls_all {xs : List Int} (hf : ∀ k, k < xs.length - 1 → xs.getD (k + 1) 0 ≤ xs.getD k 0) : ∀ k, k ≤ xs.length - 1 → xs.getD k 0 ≤ xs.getD 0 0
  | 0, _ => Int.le_refl _
  | k + 1, h => Int.le_trans (hf k (by omega)) (falls_all hf k (by omega))
def meanF (xs : List Int) : Int × Int := if flowsCode xs = 0 then (if xs.length - 1 = 0 then (0, 6) else (divR (xs.getD 0 0 - xs.getD (xs.length - 1) 0) ((xs.length - 1 : Nat) : Int), 0)) else (0, flowsCode xs)
theorem MeanLoss_i (A : Option Addr) (c : Nat) (xs : List Int) (w : World) (hn : (xs.length : Int) ≤ 1048576) (hI : Ints w.heap.size w A xs) (hT : Fits xs) :
    Calls Try.prog 42 #[.slice A xs.length c] w fun e w' => e = .returned (.tuple #[.int .i64 (meanF xs).1, .int .i64 (meanF xs).2]) ∧ Below w.heap.size w w' := by
  have HC := ductFlowsCode_any A c xs w.heap.size w hn hI (Nat.le_refl _) hT
  unfold meanF
  rcases flowsCode_or xs with h | ⟨h, h'⟩
  · obtain ⟨h1, h2, h3⟩ := flowsCode_zero h
    rw [if_pos h]
    rw [h] at HC
    have HL := Lib.hid (fun (W : World) (hb : Below w.heap.size w W) => lossesOf_any A c xs w.heap.size W h1 (hI.below hb) hb.size h2)
    have HC := Lib.hid HC
    have hfa := falls_all h3 (xs.length - 1) (Nat.le_refl _)
    obtain ⟨g1, g2⟩ := getD_in h2 0
    obtain ⟨g3, g4⟩ := getD_in h2 (xs.length - 1)
    obtain ⟨n, hN⟩ : ∃ n, xs.length - 1 = n := ⟨_, rfl⟩
    rw [hN] at HL g3 g4 hfa ⊢
    have hn63 : n ≤ 63 := by omega
    have hB : ∀ k, k ≤ n → -1000000000000000 ≤ totN (lossF xs n) k ∧ totN (lossF xs n) k ≤ 1000000000000000 := fun k hk => by
      rw [tot_loss xs n k hk]; have := getD_in h2 k; omega
    have HS := Lib.hid (fun (A' : Option Addr) (c' : Nat) (W : World) (hI' : Ints W.heap.size W A' (lossF xs n)) => sumOf_any A' c' n (lossF xs n) W.heap.size W (by omega) (lossF_length _ _) hI' hB)
    rw [tot_loss xs n n (Nat.le_refl _)] at HS
    generalize xs.getD 0 0 = x at *
    generalize xs.getD n 0 = y at *
    clear h h2 h3 hI hT hN hB
    by_cases hz : n = 0
    · subst hz
      go_enter Try.func42, Try.ntmps42
      go_wp2_with fail
      refine HC.out.mono ?_
      rintro e w1 ⟨rfl, hb1⟩
      go_wp2_with fail
      refine (HL.out _ hb1).mono ?_
      rintro e w2 ⟨v, rfl, ho, hb2⟩
      obtain ⟨A', c', rfl, hI', -⟩ := ho.slice
      have hb12 := hb1.trans (hb2.mono hb1.size)
      rw [lossF_length]
      clear ho hI'
      go_wp2
      go_ret2
      exact ⟨by simp, hb12⟩
    · have hz' : ((n : Int) == 0) = false := by simp; exact hz
      rw [if_neg hz]
      have hz1 : (1 : Int) ≤ n := by omega
      clear hz
      go_enter Try.func42, Try.ntmps42
      go_wp2_with fail
      refine HC.out.mono ?_
      rintro e w1 ⟨rfl, hb1⟩
      go_wp2_with fail
      refine (HL.out _ hb1).mono ?_
      rintro e w2 ⟨v, rfl, ho, hb2⟩
      obtain ⟨A', c', rfl, hI', -⟩ := ho.slice
      have hb12 := hb1.trans (hb2.mono hb1.size)
      have HI := Lib.hid hI'
      rw [lossF_length]
      clear ho hI'
      go_wp2_with (first | (go_at_call 87; refine (HS.out _ _ _ HI.out).mono ?_; rintro e w' ⟨rfl, rfl⟩) | (go_at_call 77; refine (divRound_any _ _ _ (by omega) (by omega) (by omega) (by omega)).mono ?_; rintro e w' ⟨rfl, _, rfl⟩))
      go_ret2
      exact ⟨by simp, below_drewN hb12 _⟩
  · rw [if_neg (by omega)]
    generalize flowsCode xs = q at *
    have HC := Lib.hid HC
    have hq : (q != 0) = true := by simp; omega
    clear hI hT h h'
    go_enter Try.func42, Try.ntmps42
    go_wp2_with fail
    refine HC.out.mono ?_
    rintro e w1 ⟨rfl, hb1⟩
    go_wp2
    go_ret2
    exact ⟨rfl, hb1⟩
set_option maxRecDepth 100000 in
theorem MeanLoss_s (A : Option Addr) (c : Nat) (xs : List Int) (w : World) (hn : (xs.length : Int) ≤ 1048576) (hI : Ints w.heap.size w A xs) (hT : Fits xs) :
    Calls Try.prog 41 #[.slice A xs.length c] w fun e w' => e = .returned (.tuple #[.int .i64 (meanF xs).1, .int .i64 (meanF xs).2]) ∧ Below w.heap.size w w' := by
  have HC := l11Flows_any A c xs w.heap.size w hn hI (Nat.le_refl _) hT
  unfold meanF
  rcases flowsCode_or xs with h | ⟨h, h'⟩
  · obtain ⟨h1, h2, h3⟩ := flowsCode_zero h
    rw [if_pos h]
    rw [h] at HC
    have HC := Lib.hid HC
    have hfa := falls_all h3 (xs.length - 1) (Nat.le_refl _)
    obtain ⟨g1, g2⟩ := getD_in h2 0
    obtain ⟨g3, g4⟩ := getD_in h2 (xs.length - 1)
    obtain ⟨n, hN⟩ : ∃ n, xs.length - 1 = n := ⟨_, rfl⟩
    rw [hN] at g3 g4 hfa ⊢
    by_cases hz : n = 0
    · subst hz
      have hz2 : (xs.length : Int) < 2 := by omega
      clear h h2 h3 hI hT hN g1 g2 g3 g4 hfa
      go_enter Try.func41, Try.ntmps41
      go_wp2_with fail
      refine HC.out.mono ?_
      rintro e w1 ⟨rfl, hb1⟩
      go_wp2
      go_ret2
      exact ⟨by simp, hb1⟩
    · rw [if_neg hz]
      have hz2 : (2 : Int) ≤ (xs.length : Int) := by omega
      obtain ⟨ad, rfl, hab, hc1⟩ := hI.at_ (k := 0) (by omega)
      obtain ⟨ad', h', _, hc2⟩ := hI.at_ (k := n) (by omega)
      cases h'
      rw [← getD_at] at hc1 hc2
      have hz1 : (1 : Int) ≤ n := by omega
      have n0 : (0 : Int) ≤ n := by omega
      have n1 : (n : Int) < xs.length := by omega
      have z1 : (0 : Int) < xs.length := by omega
      have hn63 : n ≤ 63 := by omega
      generalize xs.getD 0 0 = x at *
      generalize xs.getD n 0 = y at *
      have hw : IntKind.i64.wrap ((xs.length : Int) - 1) = (n : Int) := by rw [IntWalk.i64_in _ (by omega)]; omega
      have hw2 : IntKind.i64.wrap (x - y) = x - y := IntWalk.i64_in _ (by omega)
      have HD := Lib.hid (fun W => l01Div_any (x - y) n W (by omega) (by omega) (by omega) (by omega))
      have H1 := Lib.hid hc1
      have H2 := Lib.hid hc2
      clear h h2 h3 hI hT hN hz hc1 hc2 hfa
      generalize xs.length = N at *
      have z2 : 0 < N := by omega
      have z3 : decide ((0 : Int) < N) = true := decide_eq_true z1
      go_enter Try.func41, Try.ntmps41
      go_wp2_with fail
      refine HC.out.mono ?_
      rintro e w1 ⟨rfl, hb1⟩
      have hc1 := (hb1.cell (p := ad.add 0) (by rw [block_add]; exact hab)).trans H1.out
      rw [show ad.add 0 = ad from rfl] at hc1
      have hc2 := (hb1.cell (p := ad.add n) (by rw [block_add]; exact hab)).trans H2.out
      go_wp2_with fail
      go_quiet ((go_at_call 74; first | exact quiet_s (HD.out _) | exact quiet_s2 (HD.out _)))
      clear hw hw2
      go_wp2
      go_ret2
      exact ⟨rfl, below_drewN hb1 _⟩
  · rw [if_neg (by omega)]
    generalize flowsCode xs = q at *
    have HC := Lib.hid HC
    have hq : (q != 0) = true := by simp; omega
    clear hI hT h h'
    go_enter Try.func41, Try.ntmps41
    go_wp2_with fail
    refine HC.out.mono ?_
    rintro e w1 ⟨rfl, hb1⟩
    go_wp2
    go_ret2
    exact ⟨rfl, hb1⟩
theorem fnExactMeanLoss_walk {w : World} (A0 : Option Addr) (c0 : Nat) (xs0 : List Int) (I0 : Ints w.heap.size w A0 xs0) (T0 : Fits xs0) (_ : xs0.length ≤ maxLen) :
    Calls Try.prog 12 #[.slice A0 xs0.length c0] w fun e w' => e = .returned (.bool true) ∧ Below w.heap.size w w' := by
  by_cases hn0 : (xs0.length : Int) ≤ 1048576
  rotate_left
  · go_enter Try.func12, Try.ntmps12
    go_wp2
    go_ret
    exact ⟨rfl, Below.refl _ _⟩
  go_enter Try.func12, Try.ntmps12
  have be0 := Below.refl w.heap.size w
  go_wp2_with fail
  refine (toInt64S_any A0 c0 xs0 w.heap.size _ (by omega) (I0.below be0) be0.size).mono ?_
  rintro e w1 ⟨rfl, ho1, hb1⟩
  have be1 := be0.trans (hb1.mono be0.size)
  go_wp2_with fail
  refine (MeanLoss_s _ _ xs0 _ (by omega) (ho1).ints T0).mono ?_
  rintro e w2 ⟨rfl, hb2⟩
  have be2 := be1.trans (hb2.mono be1.size)
  go_wp2_with fail
  refine (toInt64S_any A0 c0 xs0 w.heap.size _ (by omega) (I0.below be2) be2.size).mono ?_
  rintro e w3 ⟨rfl, ho3, hb3⟩
  have be3 := be2.trans (hb3.mono be2.size)
  go_wp2_with fail
  refine (MeanLoss_i _ _ xs0 _ (by omega) (ho3).ints T0).mono ?_
  rintro e w4 ⟨rfl, hb4⟩
  have be4 := be3.trans (hb4.mono be3.size)
  go_wp2_with fail
  refine (toInt64S_any A0 c0 xs0 w.heap.size _ (by omega) (I0.below be4) be4.size).mono ?_
  rintro e w5 ⟨rfl, ho5, hb5⟩
  have be5 := be4.trans (hb5.mono be4.size)
  go_wp2_with fail
  refine (dB (eqInt64S_yes _ _ _ _ xs0 _ _ _ (by omega) (ho3|>.later hb4 |>.later hb5 ).ints (ho5).ints)).mono ?_
  rintro e w6 ⟨rfl, hb6⟩
  have be6 := be5.trans (hb6.mono be5.size)
  go_wp2_with fail
  go_ret
  exact ⟨rfl, be6⟩
end Go.Proofs.Ytiiidloobfimcaa
