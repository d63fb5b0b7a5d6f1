/- The power of boosters: the program's and the reference's; and the walk of the law. Conditions: the bounds that each theorem names. -/
import Derived.Test.YtmfbdngibbkciaaUp
namespace Go.Proofs.Ytmfbdngibbkciaa
open Go.RowKit
open Pl
theorem l03Abs_any (n : Int) (w : World) (h1 : -9223372036854775807 ≤ n) (h2 : n ≤ 9223372036854775807) :
    Calls Try.prog 62 #[.int .i64 n] w fun e w' => e = .returned (.int .i64 n.natAbs) ∧ w = w' := by
  by_cases h : 0 ≤ n
  · have e : ((n.natAbs : Nat) : Int) = mx n (-n) := by unfold mx; split <;> omega
    rw [e]
    go_enter Try.func62, Try.ntmps62
    go_wp2_with (go_at_call 99; refine (l00Max_any _ _ _).mono ?_; rintro e w' ⟨rfl, rfl⟩)
    go_ret
    exact ⟨rfl, rfl⟩
  · have e : ((n.natAbs : Nat) : Int) = mx n (-n) := by unfold mx; split <;> omega
    rw [e]
    go_enter Try.func62, Try.ntmps62
    go_wp2_with (go_at_call 99; refine (l00Max_any _ _ _).mono ?_; rintro e w' ⟨rfl, rfl⟩)
    go_ret
    exact ⟨rfl, rfl⟩
/-- The power of the first k boosters. -/
def boostN (xs ys : List Int) (p : Int) : Nat → Int | 0 => 0 | k + 1 => boostN xs ys p k + divR (p * ((xs.getD (ys.getD k 0).toNat 0).natAbs : Int)) 100
theorem boostN_bd (xs ys : List Int) (p : Int) (hp : 1 ≤ p ∧ p ≤ 20000) (hx : ∀ k, -100000 ≤ xs.getD k 0 ∧ xs.getD k 0 ≤ 100000) : ∀ k : Nat, 0 ≤ boostN xs ys p k ∧ boostN xs ys p k ≤ 20000000 * k
  | 0 => by simp [boostN]
  | k + 1 => by
    obtain ⟨a, b⟩ := boostN_bd xs ys p hp hx k
    obtain ⟨c, d⟩ := hx (ys.getD k 0).toNat
    have h1 : 0 ≤ p * ((xs.getD (ys.getD k 0).toNat 0).natAbs : Int) := mul_ge (by omega) (by omega)
    have h2 : p * ((xs.getD (ys.getD k 0).toNat 0).natAbs : Int) ≤ 20000 * 100000 := mul_le (by omega) (by omega) (by omega) (by omega)
    have h3 := divR_nonneg' (b := 100) (by omega) h1
    have h4 := divR_le (a := p * ((xs.getD (ys.getD k 0).toNat 0).natAbs : Int)) (b := 100) (c := 20000000) (by omega) (by omega) (by omega)
    unfold boostN
    omega
def boostB (xs ys : List Int) (p : Int) : Bool := decide ((xs.length : Int) ≤ 24) && (allIn xs (-100000) 100000 && (incB ys && (allIn ys 0 ((xs.length : Int) - 1) && inB p 1 20000)))
def boostF (xs ys : List Int) (p : Int) : Int × Int := if boostB xs ys p then (boostN xs ys p ys.length, 0) else (0, 2)
theorem boostF_no {xs ys : List Int} {p : Int} (h : boostB xs ys p = false) : boostF xs ys p = (0, 2) := by unfold boostF; rw [h]; rfl
theorem boostF_yes {xs ys : List Int} {p : Int} (h : boostB xs ys p = true) : boostF xs ys p = (boostN xs ys p ys.length, 0) := by unfold boostF; rw [h]; rfl
theorem ret_ii {a b c d : Int} (h : (a, b) = (c, d)) : Ending.returned (.tuple #[.int .i64 a, .int .i64 b]) = .returned (.tuple #[.int .i64 c, .int .i64 d]) := by injection h with h1 h2; rw [h1, h2]
theorem getD_le {xs : List Int} {a b : Int} (h0 : a ≤ 0) (h1 : 0 ≤ b) (h : allIn xs a b = true) (k : Nat) : a ≤ xs.getD k 0 ∧ xs.getD k 0 ≤ b := by
  by_cases hk : k < xs.length
  · rw [getD_pt hk]; exact allIn_iff.1 h _ (List.getElem_mem hk)
  · simp [List.getD, List.getElem?_eq_none (by omega : xs.length ≤ k), h0, h1]
set_option maxRecDepth 100000 in
set_option maxHeartbeats 1600000 in
theorem BoosterPower_i (A : Option Addr) (c : Nat) (xs : List Int) (A' : Option Addr) (c' : Nat) (ys : List Int) (p : Int) (w : World) (hn : (xs.length : Int) ≤ 1048576) (hI : Ints w.heap.size w A xs) (hT : Fits xs) (hn' : (ys.length : Int) ≤ 1048576) (hI' : Ints w.heap.size w A' ys) (hT' : Fits ys) :
    Calls Try.prog 24 #[.slice A xs.length c, .slice A' ys.length c', .int .i64 p] w fun e w' => e = .returned (.tuple #[.int .i64 (boostF xs ys p).1, .int .i64 (boostF xs ys p).2]) ∧ Below w.heap.size w w' := by
  obtain ⟨R, hR⟩ : ∃ R, R = boostF xs ys p := ⟨_, rfl⟩
  rw [← hR]
  have HR := Lib.hid hR
  have J := Lib.hid hI
  have J' := Lib.hid hI'
  have HT := Lib.hid hT
  have HT' := Lib.hid hT'
  clear hR hI hI' hT hT'
  by_cases h0 : (xs.length : Int) ≤ 24
  rotate_left
  · have HN := Lib.hid (boostF_no (xs := xs) (ys := ys) (p := p) (by simp [boostB, h0]))
    go_enter Try.func24, Try.ntmps24
    go_wp2_with fail
    go_ret2
    exact ⟨ret_ii (by rw [HR.out, HN.out]), Below.refl _ _⟩
  cases h1 : allIn xs (-100000) 100000
  · have HN := Lib.hid (boostF_no (xs := xs) (ys := ys) (p := p) (by simp [boostB, h0, h1]))
    go_enter Try.func24, Try.ntmps24
    go_wp2_with fail
    refine (allWithin_any A c xs _ _ w.heap.size w (by omega) J.out (Nat.le_refl _) HT.out).mono ?_
    rintro e w1 ⟨rfl, hb1⟩
    rw [h1]
    go_wp2_with fail
    go_ret2
    exact ⟨ret_ii (by rw [HR.out, HN.out]), hb1⟩
  have H1 := Lib.hid h1
  clear h1
  cases h2 : incB ys
  · have HN := Lib.hid (boostF_no (xs := xs) (ys := ys) (p := p) (by simp [boostB, h0, H1.out, h2]))
    go_enter Try.func24, Try.ntmps24
    go_wp2_with fail
    refine (allWithin_any A c xs _ _ w.heap.size w (by omega) J.out (Nat.le_refl _) HT.out).mono ?_
    rintro e w1 ⟨rfl, hb1⟩
    rw [H1.out]
    go_wp2_with fail
    refine (increasing_any A' c' ys w.heap.size w1 (by omega) (J'.out.below hb1)).mono ?_
    rintro e _ ⟨rfl, n2, rfl⟩
    rw [h2]
    go_wp2_with fail
    go_ret2
    exact ⟨ret_ii (by rw [HR.out, HN.out]), below_drewN hb1 _⟩
  have H2 := Lib.hid h2
  clear h2
  cases h3 : allIn ys 0 ((xs.length : Int) - 1)
  · have HN := Lib.hid (boostF_no (xs := xs) (ys := ys) (p := p) (by simp [boostB, h0, H1.out, H2.out, h3]))
    go_enter Try.func24, Try.ntmps24
    go_wp2_with fail
    refine (allWithin_any A c xs _ _ w.heap.size w (by omega) J.out (Nat.le_refl _) HT.out).mono ?_
    rintro e w1 ⟨rfl, hb1⟩
    rw [H1.out]
    go_wp2_with fail
    refine (increasing_any A' c' ys w.heap.size w1 (by omega) (J'.out.below hb1)).mono ?_
    rintro e _ ⟨rfl, n2, rfl⟩
    rw [H2.out]
    have hb2 := below_drewN hb1 n2
    generalize w1.drewN n2 = w2 at *
    go_wp2_with fail
    refine (allWithin_any A' c' ys _ _ w.heap.size w2 (by omega) (J'.out.below hb2) hb2.size HT'.out).mono ?_
    rintro e w3 ⟨rfl, hb3⟩
    rw [h3]
    go_wp2_with fail
    go_ret2
    exact ⟨ret_ii (by rw [HR.out, HN.out]), hb2.trans (hb3.mono hb2.size)⟩
  have H3 := Lib.hid h3
  clear h3
  cases h4 : inB p 1 20000
  · have HN := Lib.hid (boostF_no (xs := xs) (ys := ys) (p := p) (by simp [boostB, h0, H1.out, H2.out, H3.out, h4]))
    go_enter Try.func24, Try.ntmps24
    go_wp2_with fail
    refine (allWithin_any A c xs _ _ w.heap.size w (by omega) J.out (Nat.le_refl _) HT.out).mono ?_
    rintro e w1 ⟨rfl, hb1⟩
    rw [H1.out]
    go_wp2_with fail
    refine (increasing_any A' c' ys w.heap.size w1 (by omega) (J'.out.below hb1)).mono ?_
    rintro e _ ⟨rfl, n2, rfl⟩
    rw [H2.out]
    have hb2 := below_drewN hb1 n2
    generalize w1.drewN n2 = w2 at *
    go_wp2_with fail
    refine (allWithin_any A' c' ys _ _ w.heap.size w2 (by omega) (J'.out.below hb2) hb2.size HT'.out).mono ?_
    rintro e w3 ⟨rfl, hb3⟩
    rw [H3.out]
    go_wp2_with (go_at_call 51; refine (within_any _ _ _ _).mono ?_; rintro e w' ⟨rfl, rfl⟩)
    go_ret2
    exact ⟨ret_ii (by rw [HR.out, HN.out]), hb2.trans (hb3.mono hb2.size)⟩
  have HY := Lib.hid (boostF_yes (xs := xs) (ys := ys) (p := p) (by simp [boostB, h0, H1.out, H2.out, H3.out, h4]))
  obtain ⟨p1, p2⟩ := inB_iff.1 h4
  have HB := Lib.hid (boostN_bd xs ys p ⟨p1, p2⟩ (getD_le (by omega) (by omega) H1.out))
  go_enter Try.func24, Try.ntmps24
  go_wp2_with fail
  refine (allWithin_any A c xs _ _ w.heap.size w (by omega) J.out (Nat.le_refl _) HT.out).mono ?_
  rintro e w1 ⟨rfl, hb1⟩
  rw [H1.out]
  go_wp2_with fail
  refine (increasing_any A' c' ys w.heap.size w1 (by omega) (J'.out.below hb1)).mono ?_
  rintro e _ ⟨rfl, n2, rfl⟩
  rw [H2.out]
  have hb2 := below_drewN hb1 n2
  generalize w1.drewN n2 = w2 at *
  go_wp2_with fail
  refine (allWithin_any A' c' ys _ _ w.heap.size w2 (by omega) (J'.out.below hb2) hb2.size HT'.out).mono ?_
  rintro e w3 ⟨rfl, hb3⟩
  rw [H3.out]
  have hb := hb2.trans (hb3.mono hb2.size)
  clear hb1 hb2 hb3
  go_wp2_with (go_at_call 51; refine (within_any _ _ _ _).mono ?_; rintro e w' ⟨rfl, rfl⟩)
  go_loopw [39, 8] (fun i s wr => ∃ k : Nat, k ≤ ys.length ∧ i = .int .i64 k ∧ s = .int .i64 (boostN xs ys p k) ∧ Below w.heap.size w wr) (fun i _ _ => ys.length - (intOf i).toNat)
  case atStart => exact ⟨0, Nat.zero_le _, rfl, rfl, hb⟩
  case round =>
    obtain ⟨k, hk, rfl, rfl, hbr⟩ := hrel
    by_cases hlt : k < ys.length
    · obtain ⟨ad', rfl, _, hc1⟩ := (J'.out.below hbr).atD hlt
      obtain ⟨y0, y1⟩ : 0 ≤ ys.getD k 0 ∧ ys.getD k 0 ≤ (xs.length : Int) - 1 := by rw [getD_pt hlt]; exact allIn_iff.1 H3.out _ (List.getElem_mem hlt)
      obtain ⟨q, hq⟩ : ∃ q : Nat, ys.getD k 0 = q := ⟨(ys.getD k 0).toNat, by omega⟩
      obtain ⟨ad, rfl, _, hc2⟩ := (J.out.below hbr).atD (k := q) (by omega)
      obtain ⟨x0, x1⟩ := getD_le (by omega) (by omega) H1.out q
      obtain ⟨s0, s1⟩ := HB.out k
      have hs : boostN xs ys p (k + 1) = boostN xs ys p k + divR (p * ((xs.getD q 0).natAbs : Int)) 100 := by rw [boostN, hq]; rfl
      have HS := Lib.hid hs
      rw [hq] at hc1 y0 y1
      clear hs hq
      generalize boostN xs ys p k = s at *
      generalize xs.getD q 0 = x at *
      have hm0 : 0 ≤ p * (x.natAbs : Int) := mul_ge (by omega) (by omega)
      have hm1 : p * (x.natAbs : Int) ≤ 20000 * 100000 := mul_le (by omega) (by omega) (by omega) (by omega)
      have h3 := divR_nonneg' (b := 100) (by omega) hm0
      have h4 := divR_le (a := p * (x.natAbs : Int)) (b := 100) (c := 20000000) (by omega) (by omega) (by omega)
      go_wp2_with (first | (go_at_call 65; refine (divRound_any _ _ _ (by omega) (by omega) (by omega) (by omega)).mono ?_; rintro e w' ⟨rfl, _, rfl⟩) | (go_at_call 66; refine (abs_any _ _ (by omega) (by omega)).mono ?_; rintro e w' ⟨rfl, rfl⟩))
      go_roundw
      case rel => exact ⟨k + 1, by omega, by go_num, by rw [HS.out], by first | exact hbr | exact below_drewN hbr _⟩
      case measure => simp [intOf]; omega
    · obtain rfl : k = ys.length := by omega
      go_wp2
      go_ret2
      exact ⟨ret_ii (by rw [HR.out, HY.out]), hbr⟩
set_option maxRecDepth 100000 in
set_option maxHeartbeats 1600000 in
theorem BoosterPower_s (A : Option Addr) (c : Nat) (xs : List Int) (A' : Option Addr) (c' : Nat) (ys : List Int) (p : Int) (w : World) (hn : (xs.length : Int) ≤ 1048576) (hI : Ints w.heap.size w A xs) (_ : Fits xs) (hn' : (ys.length : Int) ≤ 1048576) (hI' : Ints w.heap.size w A' ys) (_ : Fits ys) :
    Calls Try.prog 22 #[.slice A xs.length c, .slice A' ys.length c', .int .i64 p] w fun e w' => e = .returned (.tuple #[.int .i64 (boostF xs ys p).1, .int .i64 (boostF xs ys p).2]) ∧ Below w.heap.size w w' := by
  obtain ⟨R, hR⟩ : ∃ R, R = boostF xs ys p := ⟨_, rfl⟩
  rw [← hR]
  have HR := Lib.hid hR
  have J := Lib.hid hI
  have J' := Lib.hid hI'
  clear hR hI hI'
  by_cases h0 : (xs.length : Int) ≤ 24
  rotate_left
  · have HN := Lib.hid (boostF_no (xs := xs) (ys := ys) (p := p) (by simp [boostB, h0]))
    go_enter Try.func22, Try.ntmps22
    go_wp2_with fail
    go_ret2
    exact ⟨ret_ii (by rw [HR.out, HN.out]), Below.refl _ _⟩
  cases h1 : (allIn ys 0 ((xs.length : Int) - 1) && incB ys)
  · have HN := Lib.hid (boostF_no (xs := xs) (ys := ys) (p := p) (by unfold boostB; cases e1 : incB ys <;> cases e2 : allIn ys 0 ((xs.length : Int) - 1) <;> simp_all))
    go_enter Try.func22, Try.ntmps22
    go_wp2_with fail
    refine (l00Rises_any A' c' ys _ _ w.heap.size w (by omega) J'.out).mono ?_
    rintro e _ ⟨rfl, n1, rfl⟩
    rw [h1]
    go_wp2_with fail
    go_ret2
    exact ⟨ret_ii (by rw [HR.out, HN.out]), below_drewN (Below.refl _ _) _⟩
  have H1 := Lib.hid h1
  clear h1
  cases h4 : inB p 1 20000
  · have HN := Lib.hid (boostF_no (xs := xs) (ys := ys) (p := p) (by simp [boostB, h4]))
    go_enter Try.func22, Try.ntmps22
    go_wp2_with fail
    refine (l00Rises_any A' c' ys _ _ w.heap.size w (by omega) J'.out).mono ?_
    rintro e _ ⟨rfl, n1, rfl⟩
    rw [H1.out]
    go_wp2_with (go_at_call 48; refine (l00In_any _ _ _ _).mono ?_; rintro e w' ⟨rfl, rfl⟩)
    go_ret2
    exact ⟨ret_ii (by rw [HR.out, HN.out]), below_drewN (Below.refl _ _) _⟩
  obtain ⟨p1, p2⟩ := inB_iff.1 h4
  have H4 := Lib.hid h4
  clear h4
  obtain ⟨m, m1, m2, m3⟩ := first_stop (fun k => inB (xs.getD k 0) (-100000) 100000) xs.length
  have M2 := Lib.hid m2
  have M3 := Lib.hid m3
  have MA := Lib.hid (allUp_stop m1 m2 m3)
  rw [← allIn_up] at MA
  clear m2 m3
  go_enter Try.func22, Try.ntmps22
  go_wp2_with fail
  refine (l00Rises_any A' c' ys _ _ w.heap.size w (by omega) J'.out).mono ?_
  rintro e _ ⟨rfl, n1, rfl⟩
  rw [H1.out]
  have hb := below_drewN (Below.refl w.heap.size w) n1
  generalize w.drewN n1 = w1 at *
  go_wp2_with (go_at_call 48; refine (eqb (l00In_any _ _ _ _) H4.out).mono ?_; rintro e w' ⟨rfl, rfl⟩)
  go_loop [8] (fun i => ∃ k : Nat, k ≤ m ∧ i = .int .i64 k) (fun i => xs.length - (intOf i).toNat)
  case atStart => exact ⟨0, Nat.zero_le _, rfl⟩
  case round =>
    obtain ⟨k, hk, rfl⟩ := hrel
    by_cases hlt : k < xs.length
    · obtain ⟨ad, rfl, _, hc1⟩ := (J.out.below hb).atD hlt
      have hq1 : (k : Int) < xs.length := by omega
      by_cases hb' : k < m
      · have hp := M2.out k hb'
        have hp : inB (xs.getD k 0) (-100000) 100000 = true := hp
        generalize xs.getD k 0 = x at *
        go_wp2_with (go_at_call 60; refine (eqb (l03Flow_any _ _) hp).mono ?_; rintro e w' ⟨rfl, rfl⟩)
        go_round
        case rel => exact ⟨k + 1, by omega, by go_num⟩
        case measure => simp [intOf]; omega
      · obtain rfl : m = k := by omega
        have hp : inB (xs.getD m 0) (-100000) 100000 = false := M3.out hlt
        have HN := Lib.hid (boostF_no (xs := xs) (ys := ys) (p := p) (by unfold boostB; rw [MA.out, decide_eq_false (show ¬ m = xs.length by omega)]; simp))
        generalize xs.getD m 0 = x at *
        go_wp2_with (go_at_call 60; refine (eqb (l03Flow_any _ _) hp).mono ?_; rintro e w' ⟨rfl, rfl⟩)
        go_ret2
        exact ⟨ret_ii (by rw [HR.out, HN.out]), hb⟩
    · obtain rfl : m = k := by omega
      have hA : allIn xs (-100000) 100000 = true := by rw [MA.out, decide_eq_true (show m = xs.length by omega)]
      have h12 := H1.out
      rw [Bool.and_eq_true] at h12
      have HA := Lib.hid hA
      have HY := Lib.hid (boostF_yes (xs := xs) (ys := ys) (p := p) (by simp [boostB, h0, hA, h12.1, h12.2, H4.out]))
      have H3 := Lib.hid h12.1
      have HB := Lib.hid (boostN_bd xs ys p ⟨p1, p2⟩ (getD_le (by omega) (by omega) hA))
      clear hA h12
      go_wp2
      go_loop [10, 9] (fun i s => ∃ k : Nat, k ≤ ys.length ∧ i = .int .i64 k ∧ s = .int .i64 (boostN xs ys p k)) (fun i _ => ys.length - (intOf i).toNat)
      case atStart => exact ⟨0, Nat.zero_le _, rfl, rfl⟩
      case round =>
        obtain ⟨k, hk, rfl, rfl⟩ := hrel
        by_cases hlt : k < ys.length
        · obtain ⟨ad', rfl, _, hc1⟩ := (J'.out.below hb).atD hlt
          obtain ⟨y0, y1⟩ : 0 ≤ ys.getD k 0 ∧ ys.getD k 0 ≤ (xs.length : Int) - 1 := by rw [getD_pt hlt]; exact allIn_iff.1 H3.out _ (List.getElem_mem hlt)
          obtain ⟨q, hq⟩ : ∃ q : Nat, ys.getD k 0 = q := ⟨(ys.getD k 0).toNat, by omega⟩
          obtain ⟨ad, rfl, _, hc2⟩ := (J.out.below hb).atD (k := q) (by omega)
          obtain ⟨x0, x1⟩ := getD_le (by omega) (by omega) HA.out q
          obtain ⟨s0, s1⟩ := HB.out k
          have hs : boostN xs ys p (k + 1) = boostN xs ys p k + divR (p * ((xs.getD q 0).natAbs : Int)) 100 := by rw [boostN, hq]; rfl
          have HS := Lib.hid hs
          rw [hq] at hc1 y0 y1
          clear hs hq
          generalize boostN xs ys p k = s at *
          generalize xs.getD q 0 = x at *
          have hm0 : 0 ≤ p * (x.natAbs : Int) := mul_ge (by omega) (by omega)
          have hm1 : p * (x.natAbs : Int) ≤ 20000 * 100000 := mul_le (by omega) (by omega) (by omega) (by omega)
          have h3 := divR_nonneg' (b := 100) (by omega) hm0
          have h4 := divR_le (a := p * (x.natAbs : Int)) (b := 100) (c := 20000000) (by omega) (by omega) (by omega)
          go_wp2_with (first | (go_at_call 61; refine (l01Div_any _ _ _ (by omega) (by omega) (by omega) (by omega)).mono ?_; rintro e w' ⟨rfl, rfl⟩) | (go_at_call 62; refine (l03Abs_any _ _ (by omega) (by omega)).mono ?_; rintro e w' ⟨rfl, rfl⟩))
          go_round
          case rel => exact ⟨k + 1, by omega, by go_num, by rw [HS.out]⟩
          case measure => simp [intOf]; omega
        · obtain rfl : k = ys.length := by omega
          go_wp2
          go_ret2
          exact ⟨ret_ii (by rw [HR.out, HY.out]), hb⟩
theorem fnExactBoosterPower_walk {w : World} (A0 : Option Addr) (c0 : Nat) (xs0 : List Int) (I0 : Ints w.heap.size w A0 xs0) (T0 : Fits xs0) (_ : xs0.length ≤ maxLen) (A1 : Option Addr) (c1 : Nat) (xs1 : List Int) (I1 : Ints w.heap.size w A1 xs1) (T1 : Fits xs1) (_ : xs1.length ≤ maxLen) (a2 : Int) (_ : -9223372036854775808 ≤ a2 ∧ a2 ≤ 9223372036854775807) :
    Calls Try.prog 5 #[.slice A0 xs0.length c0, .slice A1 xs1.length c1, .int .i64 a2] w fun e w' => e = .returned (.bool true) ∧ Below w.heap.size w w' := by
  by_cases hn0 : (xs0.length : Int) ≤ 1048576
  rotate_left
  · go_enter Try.func5, Try.ntmps5
    go_wp2
    go_ret
    exact ⟨rfl, Below.refl _ _⟩
  by_cases hn1 : (xs1.length : Int) ≤ 1048576
  rotate_left
  · go_enter Try.func5, Try.ntmps5
    go_wp2
    go_ret
    exact ⟨rfl, Below.refl _ _⟩
  go_enter Try.func5, Try.ntmps5
  have be0 := Below.refl w.heap.size w
  go_wp2_with fail
  refine (toInt64S_any A0 c0 xs0 w.heap.size _ (by omega) (I0.below be0) be0.size).mono ?_
  rintro e w1 ⟨rfl, ho1, hb1⟩
  have be1 := be0.trans (hb1.mono be0.size)
  go_wp2_with fail
  refine (toInt64S_any A1 c1 xs1 w.heap.size _ (by omega) (I1.below be1) be1.size).mono ?_
  rintro e w2 ⟨rfl, ho2, hb2⟩
  have be2 := be1.trans (hb2.mono be1.size)
  go_wp2_with fail
  refine (BoosterPower_s _ _ xs0 _ _ xs1 a2 _ (by omega) (ho1|>.later hb2 ).ints T0 (by omega) (ho2).ints T1).mono ?_
  rintro e w3 ⟨rfl, hb3⟩
  have be3 := be2.trans (hb3.mono be2.size)
  go_wp2_with fail
  refine (toInt64S_any A0 c0 xs0 w.heap.size _ (by omega) (I0.below be3) be3.size).mono ?_
  rintro e w4 ⟨rfl, ho4, hb4⟩
  have be4 := be3.trans (hb4.mono be3.size)
  go_wp2_with fail
  refine (toInt64S_any A1 c1 xs1 w.heap.size _ (by omega) (I1.below be4) be4.size).mono ?_
  rintro e w5 ⟨rfl, ho5, hb5⟩
  have be5 := be4.trans (hb5.mono be4.size)
  go_wp2_with fail
  refine (BoosterPower_i _ _ xs0 _ _ xs1 a2 _ (by omega) (ho4|>.later hb5 ).ints T0 (by omega) (ho5).ints T1).mono ?_
  rintro e w6 ⟨rfl, hb6⟩
  have be6 := be5.trans (hb6.mono be5.size)
  go_wp2_with fail
  refine (toInt64S_any A0 c0 xs0 w.heap.size _ (by omega) (I0.below be6) be6.size).mono ?_
  rintro e w7 ⟨rfl, ho7, hb7⟩
  have be7 := be6.trans (hb7.mono be6.size)
  go_wp2_with fail
  refine (dB (eqInt64S_yes _ _ _ _ xs0 _ _ _ (by omega) (ho4|>.later hb5 |>.later hb6 |>.later hb7 ).ints (ho7).ints)).mono ?_
  rintro e w8 ⟨rfl, hb8⟩
  have be8 := be7.trans (hb8.mono be7.size)
  go_wp2_with fail
  refine (toInt64S_any A1 c1 xs1 w.heap.size _ (by omega) (I1.below be8) be8.size).mono ?_
  rintro e w9 ⟨rfl, ho9, hb9⟩
  have be9 := be8.trans (hb9.mono be8.size)
  go_wp2_with fail
  refine (dB (eqInt64S_yes _ _ _ _ xs1 _ _ _ (by omega) (ho5|>.later hb6 |>.later hb7 |>.later hb8 |>.later hb9 ).ints (ho9).ints)).mono ?_
  rintro e w10 ⟨rfl, hb10⟩
  have be10 := be9.trans (hb10.mono be9.size)
  go_wp2_with fail
  go_ret
  exact ⟨rfl, be10⟩
end Go.Proofs.Ytmfbdngibbkciaa
