/- The temperature of mixed air: the program's and the reference's; and the walk of the law. Conditions: the bounds that each theorem names. -/
import Derived.Test.YtiiidloobfimcaaBase
import Derived.Test.YtiiidloobfimcaaList
import Derived.Test.YtiiidloobfimcaaHof
import Derived.Test.YtiiidloobfimcaaPair
import Derived.Test.YtiiidloobfimcaaMix
import Derived.Test.YtiiidloobfimcaaLoss
import Derived.Test.YtiiidloobfimcaaMean
import Derived.IntWalk
import Derived.BigQuiet
namespace Go.Proofs.Ytiiidloobfimcaa
open Go.RowKit
open Pl
theorem tot_sum (xs : List Int) : ∀ k, totN xs k = sumN xs k
  | 0 => rfl
  | k + 1 => by rw [totN, sumN, tot_sum xs k]
theorem sumN_pos {xs : List Int} (h : ∀ x ∈ xs, 1 ≤ x ∧ x ≤ 100000) : ∀ k, k ≤ xs.length → (k : Int) ≤ sumN xs k ∧ sumN xs k ≤ k * 100000
  | 0, _ => by simp [sumN]
  | k + 1, hk => by
    obtain ⟨a, b⟩ := sumN_pos h k (by omega)
    have c := h _ (List.getElem_mem (l := xs) (n := k) (by omega))
    rw [← getD_eq] at c
    unfold sumN
    omega
def mixTF (xs ys : List Int) : Int := divR (dotN xs ys xs.length) (sumN xs xs.length)
set_option maxRecDepth 100000 in
theorem mixTemperature_any (A A' : Option Addr) (c c' n : Nat) (xs ys : List Int) (B : Nat) (w : World) (h0 : 1 ≤ n) (hn : n ≤ 24) (hx : xs.length = n) (hy : ys.length = n) (hI : Ints B w A xs) (hI' : Ints B w A' ys)
    (h1 : ∀ x ∈ xs, 1 ≤ x ∧ x ≤ 100000) (h2 : ∀ y ∈ ys, -100 ≤ y ∧ y ≤ 600) :
    Calls Try.prog 68 #[.slice A n c, .slice A' n c'] w fun e w' => e = .returned (.int .i64 (mixTF xs ys)) ∧ ∃ n, w.drewN n = w' := by
  have HS := Lib.hid (fun k => dotN_bd (X := 100000) (Y := 600) (fun x hx => ⟨by have := h1 x hx; omega, (h1 x hx).2⟩) (fun y hy => ⟨by have := h2 y hy; omega, (h2 y hy).2⟩) (by omega) (by omega) k)
  obtain ⟨p1, p2⟩ := sumN_pos h1 n (by omega)
  have HT := Lib.hid (sumOf_any A c n xs B w (by omega) hx hI (fun k hk => by rw [tot_sum]; have := sumN_pos h1 k (by omega); omega))
  rw [tot_sum] at HT
  unfold mixTF
  rw [hx]
  have H1 := Lib.hid h1
  have H2 := Lib.hid h2
  have HX := Lib.hid hx
  have HY := Lib.hid hy
  have J := Lib.hid hI
  have J' := Lib.hid hI'
  clear h1 h2 hx hy hI hI'
  go_enter Try.func68, Try.ntmps68
  go_wp2
  go_loop [5, 10] (fun s i => ∃ k : Nat, k ≤ n ∧ i = .int .i64 k ∧ s = .int .i64 (dotN xs ys k)) (fun _ i => n - (intOf i).toNat)
  case atStart => exact ⟨0, Nat.zero_le _, rfl, rfl⟩
  case round =>
    obtain ⟨k, hk, rfl, rfl⟩ := hrel
    obtain ⟨a1, a2⟩ := HS.out k
    by_cases hlt : k < n
    · obtain ⟨ad, rfl, _, hc1⟩ := J.out.at_ (k := k) (by rw [HX.out]; exact hlt)
      obtain ⟨ad', rfl, _, hc2⟩ := J'.out.at_ (k := k) (by rw [HY.out]; exact hlt)
      obtain ⟨x1, x2⟩ := H1.out _ (List.getElem_mem (l := xs) (n := k) (by rw [HX.out]; exact hlt))
      obtain ⟨y1, y2⟩ := H2.out _ (List.getElem_mem (l := ys) (n := k) (by rw [HY.out]; exact hlt))
      rw [← getD_eq] at hc1 hc2 x1 x2 y1 y2
      obtain ⟨m1, m2⟩ := mul_abs (by omega : -100000 ≤ xs.getD k 0) x2 (by omega : -600 ≤ ys.getD k 0) y2
      have hs : dotN xs ys (k + 1) = dotN xs ys k + xs.getD k 0 * ys.getD k 0 := rfl
      have HSS := Lib.hid hs
      clear hs
      generalize xs.getD k 0 = x at *
      generalize ys.getD k 0 = y at *
      generalize dotN xs ys k = d at *
      go_wp2
      go_round
      case rel => exact ⟨k + 1, by omega, by go_num, by rw [HSS.out]⟩
      case measure => simp [intOf]; omega
    · obtain rfl : k = n := by omega
      generalize hd : dotN xs ys k = d at *
      generalize ht : sumN xs k = t at *
      have HD := Lib.hid hd
      have HE := Lib.hid ht
      clear hd ht
      go_wp2_with (first | (go_at_call 87; refine (HT.out).mono ?_; rintro e w' ⟨rfl, rfl⟩) | (go_at_call 77; refine (divRound_any _ _ _ (by omega) (by omega) (by omega) (by omega)).mono ?_; rintro e w' ⟨rfl, _, rfl⟩))
      go_ret
      exact ⟨ret_int (by rw [HD.out, HE.out]), _, rfl⟩
set_option maxRecDepth 100000 in
theorem l16Mix_any (A A' : Option Addr) (c c' n : Nat) (xs ys : List Int) (B : Nat) (w : World) (h0 : 1 ≤ n) (hn : n ≤ 24) (hx : xs.length = n) (hy : ys.length = n) (hI : Ints B w A xs) (hI' : Ints B w A' ys)
    (h1 : ∀ x ∈ xs, 1 ≤ x ∧ x ≤ 100000) (h2 : ∀ y ∈ ys, -100 ≤ y ∧ y ≤ 600) :
    Calls Try.prog 66 #[.slice A n c, .slice A' n c'] w fun e w' => e = .returned (.int .i64 (mixTF xs ys)) ∧ ∃ n, w.drewN n = w' := by
  have HS := Lib.hid (fun k => dotN_bd (X := 100000) (Y := 600) (fun x hx => ⟨by have := h1 x hx; omega, (h1 x hx).2⟩) (fun y hy => ⟨by have := h2 y hy; omega, (h2 y hy).2⟩) (by omega) (by omega) k)
  have HP := Lib.hid (fun k (hk : k ≤ n) => sumN_pos h1 k (by omega))
  unfold mixTF
  rw [hx]
  have H1 := Lib.hid h1
  have H2 := Lib.hid h2
  have HX := Lib.hid hx
  have HY := Lib.hid hy
  have J := Lib.hid hI
  have J' := Lib.hid hI'
  clear h1 h2 hx hy hI hI'
  go_enter Try.func66, Try.ntmps66
  go_wp2
  go_loopw [5, 6, 7] (fun s t i wr => ∃ k : Nat, k ≤ n ∧ i = .int .i64 k ∧ s = .int .i64 (dotN xs ys k) ∧ t = .int .i64 (sumN xs k) ∧ ∃ m, w.drewN m = wr) (fun _ _ i _ => n - (intOf i).toNat)
  case atStart => exact ⟨0, Nat.zero_le _, rfl, rfl, rfl, 0, rfl⟩
  case round =>
    obtain ⟨k, hk, rfl, rfl, rfl, m, rfl⟩ := hrel
    obtain ⟨a1, a2⟩ := HS.out k
    obtain ⟨a3, a4⟩ := HP.out k hk
    by_cases hlt : k < n
    · obtain ⟨ad, rfl, _, hc1⟩ := J.out.at_ (k := k) (by rw [HX.out]; exact hlt)
      obtain ⟨ad', rfl, _, hc2⟩ := J'.out.at_ (k := k) (by rw [HY.out]; exact hlt)
      obtain ⟨x1, x2⟩ := H1.out _ (List.getElem_mem (l := xs) (n := k) (by rw [HX.out]; exact hlt))
      obtain ⟨y1, y2⟩ := H2.out _ (List.getElem_mem (l := ys) (n := k) (by rw [HY.out]; exact hlt))
      rw [← getD_eq] at hc1 hc2 x1 x2 y1 y2
      obtain ⟨m1, m2⟩ := mul_abs (by omega : -100000 ≤ xs.getD k 0) x2 (by omega : -600 ≤ ys.getD k 0) y2
      have hs : dotN xs ys (k + 1) = dotN xs ys k + xs.getD k 0 * ys.getD k 0 := rfl
      have hs' : sumN xs (k + 1) = sumN xs k + xs.getD k 0 := rfl
      have HSS := Lib.hid hs
      have HSS' := Lib.hid hs'
      have hi0 : (0 : Int) ≤ k := by omega
      have hi1 : (k : Int) < n := by omega
      clear hs hs'
      generalize xs.getD k 0 = x at *
      generalize ys.getD k 0 = y at *
      generalize dotN xs ys k = d at *
      generalize sumN xs k = t at *
      go_wp2_with fail
      go_quiet (fail)
      go_wp2
      go_roundw
      case rel => exact ⟨k + 1, by omega, by go_num, by rw [HSS.out], by rw [HSS'.out], _, rfl⟩
      case measure => simp [intOf]; omega
    · obtain rfl : k = n := by omega
      generalize hd : dotN xs ys k = d at *
      generalize ht : sumN xs k = t at *
      have HD := Lib.hid hd
      have HE := Lib.hid ht
      clear hd ht
      go_wp2_with (go_at_call 74; refine (l01Div_any _ _ _ (by omega) (by omega) (by omega) (by omega)).mono ?_; rintro e w' ⟨rfl, rfl⟩)
      go_ret
      exact ⟨ret_int (by rw [HD.out, HE.out]), _, rfl⟩
def mixTempF (xs ys : List Int) : Int × Int := if 1 ≤ xs.length ∧ xs.length ≤ 24 ∧ ys.length = xs.length ∧ (allIn xs 1 100000 && allIn ys (-100) 600) = true then (mixTF xs ys, 0) else (0, 2)
theorem MixTemperature_i (A : Option Addr) (c : Nat) (xs : List Int) (A' : Option Addr) (c' : Nat) (ys : List Int) (w : World) (hn : (xs.length : Int) ≤ 1048576) (hI : Ints w.heap.size w A xs) (hT : Fits xs) (_ : (ys.length : Int) ≤ 1048576) (hI' : Ints w.heap.size w A' ys) (hT' : Fits ys) :
    Calls Try.prog 25 #[.slice A xs.length c, .slice A' ys.length c'] w fun e w' => e = .returned (.tuple #[.int .i64 (mixTempF xs ys).1, .int .i64 (mixTempF xs ys).2]) ∧ Below w.heap.size w w' := by
  unfold mixTempF
  by_cases h1 : 1 ≤ xs.length
  · by_cases h24 : xs.length ≤ 24
    · by_cases hl : ys.length = xs.length
      · obtain ⟨n, hxn⟩ : ∃ n, xs.length = n := ⟨_, rfl⟩
        have hyn : ys.length = n := by omega
        have hn1 : (1 : Int) ≤ n := by omega
        have hn24 : (n : Int) ≤ 24 := by omega
        have W1 := fun (W : World) (hb : Below w.heap.size w W) => allWithin_any A c xs 1 100000 w.heap.size W (by omega) (hI.below hb) hb.size hT
        have W2 := fun (W : World) (hb : Below w.heap.size w W) => allWithin_any A' c' ys (-100) 600 w.heap.size W (by omega) (hI'.below hb) hb.size hT'
        rw [hxn] at W1
        rw [hyn] at W2
        cases h2 : allIn xs 1 100000
        · rw [h2] at W1
          have W1 := Lib.hid W1
          rw [if_neg (by simp), hxn, hyn]
          clear hI hI' hT hT' hxn hyn hl h24 W2 hn h1
          go_enter Try.func25, Try.ntmps25
          go_wp2_with fail
          refine (W1.out _ (Below.refl _ _)).mono ?_
          rintro e w1 ⟨rfl, hb1⟩
          go_wp2
          go_ret2
          exact ⟨rfl, hb1⟩
        · rw [h2] at W1
          cases h3 : allIn ys (-100) 600
          · rw [h3] at W2
            have W1 := Lib.hid W1
            have W2 := Lib.hid W2
            rw [if_neg (by simp), hxn, hyn]
            clear hI hI' hT hT' hxn hyn hl h24 hn h1
            go_enter Try.func25, Try.ntmps25
            go_wp2_with fail
            refine (W1.out _ (Below.refl _ _)).mono ?_
            rintro e w1 ⟨rfl, hb1⟩
            go_wp2_with fail
            refine (W2.out _ hb1).mono ?_
            rintro e w2 ⟨rfl, hb2⟩
            go_wp2
            go_ret2
            exact ⟨rfl, hb1.trans (hb2.mono hb1.size)⟩
          · rw [h3] at W2
            have W1 := Lib.hid W1
            have W2 := Lib.hid W2
            have WM := Lib.hid (fun (W : World) (hb : Below w.heap.size w W) => mixTemperature_any A A' c c' n xs ys w.heap.size W (by omega) (by omega) hxn hyn (hI.below hb) (hI'.below hb) (allIn_iff.1 h2) (allIn_iff.1 h3))
            rw [if_pos ⟨h1, h24, hl, rfl⟩, hxn, hyn]
            clear hI hI' hT hT' hxn hyn hl h24 hn h1
            go_enter Try.func25, Try.ntmps25
            go_wp2_with fail
            refine (W1.out _ (Below.refl _ _)).mono ?_
            rintro e w1 ⟨rfl, hb1⟩
            go_wp2_with fail
            refine (W2.out _ hb1).mono ?_
            rintro e w2 ⟨rfl, hb2⟩
            have hb12 := hb1.trans (hb2.mono hb1.size)
            go_wp2_with fail
            refine (WM.out _ hb12).mono ?_
            rintro e w3 ⟨rfl, m, rfl⟩
            go_wp2
            go_ret2
            exact ⟨rfl, below_drewN hb12 _⟩
      · rw [if_neg (fun h => hl h.2.2.1)]
        have hne : ((ys.length : Int) != (xs.length : Int)) = true := by rw [bne_iff_ne]; omega
        have hi1 : (1 : Int) ≤ xs.length := by omega
        have hi24 : (xs.length : Int) ≤ 24 := by omega
        clear hl h24 hI hI' hT hT' h1
        go_enter Try.func25, Try.ntmps25
        go_wp2
        go_ret2
        exact ⟨rfl, Below.refl _ _⟩
    · rw [if_neg (fun h => h24 h.2.1)]
      have hi24 : (24 : Int) < (xs.length : Int) := by omega
      clear h24 hI hI' hT hT' h1
      go_enter Try.func25, Try.ntmps25
      go_wp2
      go_ret2
      exact ⟨rfl, Below.refl _ _⟩
  · rw [if_neg (fun h => h1 h.1)]
    have hi0 : (xs.length : Int) < 1 := by omega
    clear hI hI' hT hT' h1
    go_enter Try.func25, Try.ntmps25
    go_wp2
    go_ret2
    exact ⟨rfl, Below.refl _ _⟩
set_option maxRecDepth 100000 in
theorem MixTemperature_s (A : Option Addr) (c : Nat) (xs : List Int) (A' : Option Addr) (c' : Nat) (ys : List Int) (w : World) (hn : (xs.length : Int) ≤ 1048576) (hI : Ints w.heap.size w A xs) (_ : Fits xs) (_ : (ys.length : Int) ≤ 1048576) (hI' : Ints w.heap.size w A' ys) (_ : Fits ys) :
    Calls Try.prog 23 #[.slice A xs.length c, .slice A' ys.length c'] w fun e w' => e = .returned (.tuple #[.int .i64 (mixTempF xs ys).1, .int .i64 (mixTempF xs ys).2]) ∧ Below w.heap.size w w' := by
  unfold mixTempF
  by_cases h1 : 1 ≤ xs.length
  · by_cases h24 : xs.length ≤ 24
    · by_cases hl : ys.length = xs.length
      · obtain ⟨n, hxn⟩ : ∃ n, xs.length = n := ⟨_, rfl⟩
        have hyn : ys.length = n := by omega
        have hn1 : (1 : Int) ≤ n := by omega
        have hn24 : (n : Int) ≤ 24 := by omega
        have HX := Lib.hid hxn
        have HY := Lib.hid hyn
        have J := Lib.hid hI
        have J' := Lib.hid hI'
        rcases pair_split xs ys n hxn hyn 1 100000 (-100) 600 with ⟨h, g⟩ | ⟨h, m, hm, hbad, g⟩
        · obtain ⟨h2, h3⟩ : allIn xs 1 100000 = true ∧ allIn ys (-100) 600 = true := by simpa using h
          have WM := Lib.hid (fun (W : World) => l16Mix_any A A' c c' n xs ys w.heap.size w (by omega) (by omega) hxn hyn hI hI' (allIn_iff.1 h2) (allIn_iff.1 h3))
          rw [if_pos ⟨h1, h24, hl, h⟩, hxn, hyn]
          have G := Lib.hid g
          clear hI hI' hxn hyn hl h24 hn h1 h h2 h3 g
          go_enter Try.func23, Try.ntmps23
          go_wp2
          go_loop [6] (fun i => ∃ k : Nat, k ≤ n ∧ i = .int .i64 k) (fun i => n - (intOf i).toNat)
          case atStart => exact ⟨0, Nat.zero_le _, rfl⟩
          case round =>
            obtain ⟨k, hk, rfl⟩ := hrel
            by_cases hlt : k < n
            · obtain ⟨ad, rfl, _, hc1⟩ := J.out.at_ (k := k) (by rw [HX.out]; exact hlt)
              obtain ⟨ad', rfl, _, hc2⟩ := J'.out.at_ (k := k) (by rw [HY.out]; exact hlt)
              rw [← getD_pr] at hc1 hc2
              obtain ⟨g1, g2⟩ := G.out k hlt
              generalize xs.getD k 0 = x at *
              generalize ys.getD k 0 = y at *
              go_wp2_with (first | (go_at_call 56; refine (l00In_any _ _ _ _).mono ?_; rintro e w' ⟨rfl, rfl⟩) | (go_at_call 55; refine (l02Temperature_any _ _).mono ?_; rintro e w' ⟨rfl, rfl⟩))
              go_round
              case rel => exact ⟨k + 1, by omega, by go_num⟩
              case measure => simp [intOf]; omega
            · obtain rfl : k = n := by omega
              go_wp2_with fail
              refine (WM.out w).mono ?_
              rintro e w3 ⟨rfl, m, rfl⟩
              go_wp2
              go_ret2
              exact ⟨rfl, below_drewN (Below.refl _ _) _⟩
        · rw [if_neg (fun q => by rw [h] at q; exact absurd q.2.2.2 (by simp)), hxn, hyn]
          have G := Lib.hid g
          have HB := Lib.hid hbad
          clear hI hI' hxn hyn hl h24 hn h1 h g hbad
          go_enter Try.func23, Try.ntmps23
          go_wp2
          go_loop [6] (fun i => ∃ k : Nat, k ≤ m ∧ i = .int .i64 k) (fun i => n - (intOf i).toNat)
          case atStart => exact ⟨0, Nat.zero_le _, rfl⟩
          case round =>
            obtain ⟨k, hk, rfl⟩ := hrel
            have hkn : k < n := by omega
            obtain ⟨ad, rfl, _, hc1⟩ := J.out.at_ (k := k) (by rw [HX.out]; exact hkn)
            obtain ⟨ad', rfl, _, hc2⟩ := J'.out.at_ (k := k) (by rw [HY.out]; exact hkn)
            rw [← getD_pr] at hc1 hc2
            by_cases hlt : k < m
            · obtain ⟨g1, g2⟩ := G.out k hlt
              generalize xs.getD k 0 = x at *
              generalize ys.getD k 0 = y at *
              go_wp2_with (first | (go_at_call 56; refine (l00In_any _ _ _ _).mono ?_; rintro e w' ⟨rfl, rfl⟩) | (go_at_call 55; refine (l02Temperature_any _ _).mono ?_; rintro e w' ⟨rfl, rfl⟩))
              go_round
              case rel => exact ⟨k + 1, by omega, by go_num⟩
              case measure => simp [intOf]; omega
            · obtain rfl : m = k := by omega
              rcases HB.out with h2 | ⟨h2, h4⟩
              · generalize xs.getD m 0 = x at *
                generalize ys.getD m 0 = y at *
                go_wp2_with (first | (go_at_call 56; refine (l00In_any _ _ _ _).mono ?_; rintro e w' ⟨rfl, rfl⟩) | (go_at_call 55; refine (l02Temperature_any _ _).mono ?_; rintro e w' ⟨rfl, rfl⟩))
                go_ret2
                exact ⟨rfl, Below.refl _ _⟩
              · generalize xs.getD m 0 = x at *
                generalize ys.getD m 0 = y at *
                go_wp2_with (first | (go_at_call 56; refine (l00In_any _ _ _ _).mono ?_; rintro e w' ⟨rfl, rfl⟩) | (go_at_call 55; refine (l02Temperature_any _ _).mono ?_; rintro e w' ⟨rfl, rfl⟩))
                go_ret2
                exact ⟨rfl, Below.refl _ _⟩
      · rw [if_neg (fun h => hl h.2.2.1)]
        have hne : ((ys.length : Int) != (xs.length : Int)) = true := by rw [bne_iff_ne]; omega
        have hi1 : (1 : Int) ≤ xs.length := by omega
        have hi24 : (xs.length : Int) ≤ 24 := by omega
        clear hl h24 hI hI' h1
        go_enter Try.func23, Try.ntmps23
        go_wp2
        go_ret2
        exact ⟨rfl, Below.refl _ _⟩
    · rw [if_neg (fun h => h24 h.2.1)]
      have hi24 : (24 : Int) < (xs.length : Int) := by omega
      clear h24 hI hI' h1
      go_enter Try.func23, Try.ntmps23
      go_wp2
      go_ret2
      exact ⟨rfl, Below.refl _ _⟩
  · rw [if_neg (fun h => h1 h.1)]
    have hi0 : (xs.length : Int) < 1 := by omega
    clear hI hI' h1
    go_enter Try.func23, Try.ntmps23
    go_wp2
    go_ret2
    exact ⟨rfl, Below.refl _ _⟩
theorem fnExactMixTemperature_walk {w : World} (A0 : Option Addr) (c0 : Nat) (xs0 : List Int) (I0 : Ints w.heap.size w A0 xs0) (T0 : Fits xs0) (_ : xs0.length ≤ maxLen) (A1 : Option Addr) (c1 : Nat) (xs1 : List Int) (I1 : Ints w.heap.size w A1 xs1) (T1 : Fits xs1) (_ : xs1.length ≤ maxLen) :
    Calls Try.prog 6 #[.slice A0 xs0.length c0, .slice A1 xs1.length c1] w fun e w' => e = .returned (.bool true) ∧ Below w.heap.size w w' := by
  by_cases hn0 : (xs0.length : Int) ≤ 1048576
  rotate_left
  · go_enter Try.func6, Try.ntmps6
    go_wp2
    go_ret
    exact ⟨rfl, Below.refl _ _⟩
  by_cases hn1 : (xs1.length : Int) ≤ 1048576
  rotate_left
  · go_enter Try.func6, Try.ntmps6
    go_wp2
    go_ret
    exact ⟨rfl, Below.refl _ _⟩
  go_enter Try.func6, Try.ntmps6
  have be0 := Below.refl w.heap.size w
  go_wp2_with fail
  refine (toInt64S_any A0 c0 xs0 w.heap.size _ (by omega) (I0.below be0) be0.size).mono ?_
  rintro e w1 ⟨rfl, ho1, hb1⟩
  have be1 := be0.trans (hb1.mono be0.size)
  go_wp2_with fail
  refine (toInt64S_any A1 c1 xs1 w.heap.size _ (by omega) (I1.below be1) be1.size).mono ?_
  rintro e w2 ⟨rfl, ho2, hb2⟩
  have be2 := be1.trans (hb2.mono be1.size)
  go_wp2_with fail
  refine (MixTemperature_s _ _ xs0 _ _ xs1 _ (by omega) (ho1|>.later hb2 ).ints T0 (by omega) (ho2).ints T1).mono ?_
  rintro e w3 ⟨rfl, hb3⟩
  have be3 := be2.trans (hb3.mono be2.size)
  go_wp2_with fail
  refine (toInt64S_any A0 c0 xs0 w.heap.size _ (by omega) (I0.below be3) be3.size).mono ?_
  rintro e w4 ⟨rfl, ho4, hb4⟩
  have be4 := be3.trans (hb4.mono be3.size)
  go_wp2_with fail
  refine (toInt64S_any A1 c1 xs1 w.heap.size _ (by omega) (I1.below be4) be4.size).mono ?_
  rintro e w5 ⟨rfl, ho5, hb5⟩
  have be5 := be4.trans (hb5.mono be4.size)
  go_wp2_with fail
  refine (MixTemperature_i _ _ xs0 _ _ xs1 _ (by omega) (ho4|>.later hb5 ).ints T0 (by omega) (ho5).ints T1).mono ?_
  rintro e w6 ⟨rfl, hb6⟩
  have be6 := be5.trans (hb6.mono be5.size)
  go_wp2_with fail
  refine (toInt64S_any A0 c0 xs0 w.heap.size _ (by omega) (I0.below be6) be6.size).mono ?_
  rintro e w7 ⟨rfl, ho7, hb7⟩
  have be7 := be6.trans (hb7.mono be6.size)
  go_wp2_with fail
  refine (dB (eqInt64S_yes _ _ _ _ xs0 _ _ _ (by omega) (ho4|>.later hb5 |>.later hb6 |>.later hb7 ).ints (ho7).ints)).mono ?_
  rintro e w8 ⟨rfl, hb8⟩
  have be8 := be7.trans (hb8.mono be7.size)
  go_wp2_with fail
  refine (toInt64S_any A1 c1 xs1 w.heap.size _ (by omega) (I1.below be8) be8.size).mono ?_
  rintro e w9 ⟨rfl, ho9, hb9⟩
  have be9 := be8.trans (hb9.mono be8.size)
  go_wp2_with fail
  refine (dB (eqInt64S_yes _ _ _ _ xs1 _ _ _ (by omega) (ho5|>.later hb6 |>.later hb7 |>.later hb8 |>.later hb9 ).ints (ho9).ints)).mono ?_
  rintro e w10 ⟨rfl, hb10⟩
  have be10 := be9.trans (hb10.mono be9.size)
  go_wp2_with fail
  go_ret
  exact ⟨rfl, be10⟩
end Go.Proofs.Ytiiidloobfimcaa
