/- The greatest and the mean loss along a duct: the program's and the reference's; and the walks of their laws. Conditions: the bounds that each theorem names. -/
import Derived.Test.YtiiidloobfimcaaLoss
import Derived.Test.YtiiidloobfimcaaQuiet
namespace Go.Proofs.Ytiiidloobfimcaa
open Go.RowKit
open Pl
/-- The loss at place k. -/
def lossAt (xs : List Int) (k : Nat) : Int := xs.getD k 0 - xs.getD (k + 1) 0
/-- The first greatest loss among the first k, if it is more than 0, and its place. -/
def leakN (xs : List Int) : Nat → Int × Int | 0 => (0, 0) | k + 1 => if (leakN xs k).2 < lossAt xs k then ((k : Int), lossAt xs k) else leakN xs k
theorem leakN_bd {xs : List Int} (h : ∀ k, 0 ≤ lossAt xs k ∧ lossAt xs k ≤ 100000 ∨ xs.length - 1 ≤ k) : ∀ k, k ≤ xs.length - 1 → 0 ≤ (leakN xs k).1 ∧ (leakN xs k).1 ≤ k ∧ 0 ≤ (leakN xs k).2 ∧ (leakN xs k).2 ≤ 100000
  | 0, _ => by simp [leakN]
  | k + 1, hk => by
    obtain ⟨a, b, c, d⟩ := leakN_bd h k (by omega)
    unfold leakN
    split
    · rcases h k with ⟨h1, h2⟩ | h1
      · exact ⟨by omega, by simp; omega, h1, h2⟩
      · omega
    · exact ⟨a, by omega, c, d⟩
theorem lossAt_bd {xs : List Int} (h : ∀ x ∈ xs, 0 ≤ x ∧ x ≤ 100000) (hf : ∀ k, k < xs.length - 1 → xs.getD (k + 1) 0 ≤ xs.getD k 0) (k : Nat) : 0 ≤ lossAt xs k ∧ lossAt xs k ≤ 100000 ∨ xs.length - 1 ≤ k := by
  by_cases hk : k < xs.length - 1
  · left
    have h1 := hf k hk
    obtain ⟨a, b⟩ := h _ (List.getElem_mem (l := xs) (n := k) (by omega))
    obtain ⟨c, d⟩ := h _ (List.getElem_mem (l := xs) (n := k + 1) (by omega))
    rw [← getD_at] at a b c d
    unfold lossAt
    omega
  · exact .inr (by omega)
theorem lossF_get (xs : List Int) (n k : Nat) (h : k < n) : (lossF xs n)[k]'(by rw [lossF_length]; exact h) = lossAt xs k := by simp [lossF, lossAt]
def leakAtF (xs : List Int) : Int × Int × Int := if flowsCode xs = 0 then (if (leakN xs (xs.length - 1)).2 = 0 then (0, 0, 3) else ((leakN xs (xs.length - 1)).1, (leakN xs (xs.length - 1)).2, 0)) else (0, 0, flowsCode xs)
set_option maxRecDepth 100000 in
theorem LeakAt_i (A : Option Addr) (c : Nat) (xs : List Int) (w : World) (hn : (xs.length : Int) ≤ 1048576) (hI : Ints w.heap.size w A xs) (hT : Fits xs) :
    Calls Try.prog 28 #[.slice A xs.length c] w fun e w' => e = .returned (.tuple #[.int .i64 (leakAtF xs).1, .int .i64 (leakAtF xs).2.1, .int .i64 (leakAtF xs).2.2]) ∧ Below w.heap.size w w' := by
  have HC := ductFlowsCode_any A c xs w.heap.size w hn hI (Nat.le_refl _) hT
  unfold leakAtF
  rcases flowsCode_or xs with h | ⟨h, h'⟩
  · obtain ⟨h1, h2, h3⟩ := flowsCode_zero h
    rw [if_pos h]
    rw [h] at HC
    have HL := Lib.hid (fun (W : World) (hb : Below w.heap.size w W) => lossesOf_any A c xs w.heap.size W h1 (hI.below hb) hb.size h2)
    have HC := Lib.hid HC
    have HB := Lib.hid (leakN_bd (lossAt_bd h2 h3))
    have HA := Lib.hid (lossAt_bd h2 h3)
    obtain ⟨n, hN⟩ : ∃ n, xs.length - 1 = n := ⟨_, rfl⟩
    rw [hN] at HL HB HA ⊢
    have hn63 : n ≤ 63 := by omega
    obtain ⟨R, hR⟩ : ∃ R : Int × Int × Int, (if (leakN xs n).2 = 0 then ((0 : Int), (0 : Int), (3 : Int)) else ((leakN xs n).1, (leakN xs n).2, 0)) = R := ⟨_, rfl⟩
    rw [hR]
    have HR := Lib.hid hR
    clear hR
    clear h h2 h3 hI hT hN
    go_enter Try.func28, Try.ntmps28
    go_wp2_with fail
    refine HC.out.mono ?_
    rintro e w1 ⟨rfl, hb1⟩
    go_wp2_with fail
    refine (HL.out _ hb1).mono ?_
    rintro e w2 ⟨v, rfl, ho, hb2⟩
    obtain ⟨A', c', rfl, hI', -⟩ := ho.slice
    have J := Lib.hid hI'
    have hb12 := hb1.trans (hb2.mono hb1.size)
    have hll := lossF_length xs n
    have HLL := Lib.hid hll
    rw [hll]
    clear ho hI' hll
    go_wp2
    go_loop [6, 7, 18] (fun b m i => ∃ k : Nat, k ≤ n ∧ i = .int .i64 k ∧ b = .int .i64 (leakN xs k).1 ∧ m = .int .i64 (leakN xs k).2) (fun _ _ i => n - (intOf i).toNat)
    case atStart => exact ⟨0, Nat.zero_le _, rfl, rfl, rfl⟩
    case round =>
      obtain ⟨k, hk, rfl, rfl, rfl⟩ := hrel
      obtain ⟨b1, b2, b3, b4⟩ := HB.out k hk
      by_cases hlt : k < n
      · obtain ⟨ad, rfl, _, hc⟩ := J.out.at_ (k := k) (by rw [HLL.out]; exact hlt)
        rw [lossF_get xs n k hlt] at hc
        by_cases hq : (leakN xs k).2 < lossAt xs k
        · have hs : leakN xs (k + 1) = ((k : Int), lossAt xs k) := by rw [leakN, if_pos hq]
          have HS := Lib.hid hs
          clear hs
          generalize lossAt xs k = y at *
          generalize leakN xs k = p at *
          go_wp2
          go_round
          case rel => exact ⟨k + 1, by omega, by go_num, by rw [HS.out], by rw [HS.out]⟩
          case measure => simp [intOf]; omega
        · have hs : leakN xs (k + 1) = leakN xs k := by rw [leakN, if_neg hq]
          have HS := Lib.hid hs
          clear hs
          generalize lossAt xs k = y at *
          generalize leakN xs k = p at *
          go_wp2
          go_round
          case rel => exact ⟨k + 1, by omega, by go_num, by rw [HS.out], by rw [HS.out]⟩
          case measure => simp [intOf]; omega
      · obtain rfl : k = n := by omega
        generalize hp : leakN xs k = p at *
        have HP := Lib.hid hp
        clear hp
        by_cases hz : p.2 = 0
        · have hz' : (p.2 == 0) = true := by simp [hz]
          have HZ := Lib.hid hz
          clear hz
          go_wp2
          go_ret3
          exact ⟨by have h := HR.out; rw [if_pos HZ.out] at h; subst h; rfl, hb12⟩
        · have hz' : (p.2 == 0) = false := by simp [hz]
          have HZ := Lib.hid hz
          clear hz
          go_wp2
          go_ret3
          exact ⟨by have h := HR.out; rw [if_neg HZ.out] at h; subst h; rfl, hb12⟩
  · rw [if_neg (by omega)]
    generalize flowsCode xs = q at *
    have HC := Lib.hid HC
    have hq : (q != 0) = true := by simp; omega
    clear hI hT h h'
    go_enter Try.func28, Try.ntmps28
    go_wp2_with fail
    refine HC.out.mono ?_
    rintro e w1 ⟨rfl, hb1⟩
    go_wp2
    go_ret3
    exact ⟨rfl, hb1⟩
set_option maxRecDepth 100000 in
theorem LeakAt_s (A : Option Addr) (c : Nat) (xs : List Int) (w : World) (hn : (xs.length : Int) ≤ 1048576) (hI : Ints w.heap.size w A xs) (hT : Fits xs) :
    Calls Try.prog 27 #[.slice A xs.length c] w fun e w' => e = .returned (.tuple #[.int .i64 (leakAtF xs).1, .int .i64 (leakAtF xs).2.1, .int .i64 (leakAtF xs).2.2]) ∧ Below w.heap.size w w' := by
  have HC := l11Flows_any A c xs w.heap.size w hn hI (Nat.le_refl _) hT
  unfold leakAtF
  rcases flowsCode_or xs with h | ⟨h, h'⟩
  · obtain ⟨h1, h2, h3⟩ := flowsCode_zero h
    rw [if_pos h]
    rw [h] at HC
    have HC := Lib.hid HC
    have HB := Lib.hid (leakN_bd (lossAt_bd h2 h3))
    have HA := Lib.hid (lossAt_bd h2 h3)
    have HX := Lib.hid h2
    have J := Lib.hid hI
    obtain ⟨n, hN⟩ : ∃ n, xs.length - 1 = n := ⟨_, rfl⟩
    rw [hN] at HB HA ⊢
    have hn63 : n ≤ 63 := by omega
    have HN := Lib.hid hN
    obtain ⟨R, hR⟩ : ∃ R : Int × Int × Int, (if (leakN xs n).2 = 0 then ((0 : Int), (0 : Int), (3 : Int)) else ((leakN xs n).1, (leakN xs n).2, 0)) = R := ⟨_, rfl⟩
    rw [hR]
    have HR := Lib.hid hR
    clear hR
    clear h h2 h3 hI hT hN
    go_enter Try.func27, Try.ntmps27
    go_wp2_with fail
    refine HC.out.mono ?_
    rintro e w1 ⟨rfl, hb1⟩
    go_wp2
    go_loopw [6, 7, 8] (fun b m i wr => ∃ k : Nat, k ≤ n ∧ i = .int .i64 (k + 1 : Nat) ∧ b = .int .i64 (leakN xs k).1 ∧ m = .int .i64 (leakN xs k).2 ∧ Below w.heap.size w wr) (fun _ _ i _ => n + 2 - (intOf i).toNat)
    case atStart => exact ⟨0, Nat.zero_le _, rfl, rfl, rfl, hb1⟩
    case round =>
      obtain ⟨k, hk, rfl, rfl, rfl, hb⟩ := hrel
      obtain ⟨b1, b2, b3, b4⟩ := HB.out k hk
      have hN' := HN.out
      by_cases hlt : k < n
      · obtain ⟨m, hm⟩ : ∃ m, m = k + 1 := ⟨_, rfl⟩
        obtain ⟨ad, rfl, _, hc1⟩ := (J.out.below hb).at_ (k := k) (by omega)
        obtain ⟨ad', h', _, hc2⟩ := (J.out.below hb).at_ (k := k + 1) (by omega)
        cases h'
        obtain ⟨x1, x2⟩ := HX.out _ (List.getElem_mem (l := xs) (n := k) (by omega))
        obtain ⟨y1, y2⟩ := HX.out _ (List.getElem_mem (l := xs) (n := k + 1) (by omega))
        rw [← getD_at] at hc1 hc2 x1 x2 y1 y2
        have i0 : (0 : Int) ≤ (m : Int) := by omega
        have i1 : (m : Int) < xs.length := by omega
        have j0 : (0 : Int) ≤ (k : Int) := by omega
        have j1 : (k : Int) < xs.length := by omega
        by_cases hq : (leakN xs k).2 < lossAt xs k
        · have hs : leakN xs (k + 1) = ((k : Int), lossAt xs k) := by rw [leakN, if_pos hq]
          unfold lossAt at hs hq
          rw [← hm] at hc2 y1 y2 hq ⊢
          rw [← hm] at hs
          generalize xs.getD k 0 = x at *
          generalize xs.getD m 0 = y at *
          generalize leakN xs k = p at *
          have HS := Lib.hid hs
          have HM := Lib.hid hm
          have hw : IntKind.i64.wrap ((m : Int) - 1) = (k : Int) := by rw [IntWalk.i64_in _ (by omega)]; omega
          have hw2 : IntKind.i64.wrap (x - y) = x - y := IntWalk.i64_in _ (by omega)
          clear hm hs hN'
          go_wp2
          go_quiet (fail)
          go_wp2
          go_quiet (fail)
          clear hw hw2
          go_wp2
          go_roundw
          case rel => exact ⟨k + 1, by omega, by have := HM.out; go_num, by rw [← HM.out, HS.out], by rw [← HM.out, HS.out], below_drewN hb _⟩
          case measure => have := HM.out; simp [intOf]; omega
        · have hs : leakN xs (k + 1) = leakN xs k := by rw [leakN, if_neg hq]
          unfold lossAt at hq
          rw [← hm] at hc2 y1 y2 hq ⊢
          rw [← hm] at hs
          generalize xs.getD k 0 = x at *
          generalize xs.getD m 0 = y at *
          generalize leakN xs k = p at *
          have HS := Lib.hid hs
          have HM := Lib.hid hm
          have hw : IntKind.i64.wrap ((m : Int) - 1) = (k : Int) := by rw [IntWalk.i64_in _ (by omega)]; omega
          have hw2 : IntKind.i64.wrap (x - y) = x - y := IntWalk.i64_in _ (by omega)
          clear hm hs hN'
          go_wp2
          go_quiet (fail)
          clear hw hw2
          go_wp2
          go_roundw
          case rel => exact ⟨k + 1, by omega, by have := HM.out; go_num, by rw [← HM.out, HS.out], by rw [← HM.out, HS.out], below_drewN hb _⟩
          case measure => have := HM.out; simp [intOf]; omega
      · obtain rfl : k = n := by omega
        have hk2 : (xs.length : Int) ≤ ((k + 1 : Nat) : Int) := by omega
        generalize hp : leakN xs k = p at *
        clear hN'
        have HP := Lib.hid hp
        clear hp
        by_cases hz : p.2 = 0
        · have hz' : (p.2 == 0) = true := by simp [hz]
          have HZ := Lib.hid hz
          clear hz
          go_wp2
          go_ret3
          exact ⟨by have h := HR.out; rw [if_pos HZ.out] at h; subst h; rfl, hb⟩
        · have hz' : (p.2 == 0) = false := by simp [hz]
          have HZ := Lib.hid hz
          clear hz
          go_wp2
          go_ret3
          exact ⟨by have h := HR.out; rw [if_neg HZ.out] at h; subst h; rfl, hb⟩
  · rw [if_neg (by omega)]
    generalize flowsCode xs = q at *
    have HC := Lib.hid HC
    have hq : (q != 0) = true := by simp; omega
    clear hI hT h h'
    go_enter Try.func27, Try.ntmps27
    go_wp2_with fail
    refine HC.out.mono ?_
    rintro e w1 ⟨rfl, hb1⟩
    go_wp2
    go_ret3
    exact ⟨rfl, hb1⟩
theorem fnExactLeakAt_walk {w : World} (A0 : Option Addr) (c0 : Nat) (xs0 : List Int) (I0 : Ints w.heap.size w A0 xs0) (T0 : Fits xs0) (_ : xs0.length ≤ maxLen) :
    Calls Try.prog 7 #[.slice A0 xs0.length c0] w fun e w' => e = .returned (.bool true) ∧ Below w.heap.size w w' := by
  by_cases hn0 : (xs0.length : Int) ≤ 1048576
  rotate_left
  · go_enter Try.func7, Try.ntmps7
    go_wp2
    go_ret
    exact ⟨rfl, Below.refl _ _⟩
  go_enter Try.func7, Try.ntmps7
  have be0 := Below.refl w.heap.size w
  go_wp2_with fail
  refine (toInt64S_any A0 c0 xs0 w.heap.size _ (by omega) (I0.below be0) be0.size).mono ?_
  rintro e w1 ⟨rfl, ho1, hb1⟩
  have be1 := be0.trans (hb1.mono be0.size)
  go_wp2_with fail
  refine (LeakAt_s _ _ xs0 _ (by omega) (ho1).ints T0).mono ?_
  rintro e w2 ⟨rfl, hb2⟩
  have be2 := be1.trans (hb2.mono be1.size)
  go_wp2_with fail
  refine (toInt64S_any A0 c0 xs0 w.heap.size _ (by omega) (I0.below be2) be2.size).mono ?_
  rintro e w3 ⟨rfl, ho3, hb3⟩
  have be3 := be2.trans (hb3.mono be2.size)
  go_wp2_with fail
  refine (LeakAt_i _ _ xs0 _ (by omega) (ho3).ints T0).mono ?_
  rintro e w4 ⟨rfl, hb4⟩
  have be4 := be3.trans (hb4.mono be3.size)
  go_wp2_with fail
  refine (toInt64S_any A0 c0 xs0 w.heap.size _ (by omega) (I0.below be4) be4.size).mono ?_
  rintro e w5 ⟨rfl, ho5, hb5⟩
  have be5 := be4.trans (hb5.mono be4.size)
  go_wp2_with fail
  refine (dB (eqInt64S_yes _ _ _ _ xs0 _ _ _ (by omega) (ho3|>.later hb4 |>.later hb5 ).ints (ho5).ints)).mono ?_
  rintro e w6 ⟨rfl, hb6⟩
  have be6 := be5.trans (hb6.mono be5.size)
  go_wp2_with fail
  go_ret
  exact ⟨rfl, be6⟩
end Go.Proofs.Ytiiidloobfimcaa
