/- Airways whose air has turned: the program's and the reference's; and the walk of the law. Conditions: the bounds that each theorem names. -/
import Derived.Test.YtnjplfcmojeedaaBase
import Derived.Test.YtnjplfcmojeedaaList
import Derived.Test.YtnjplfcmojeedaaHof
import Derived.Test.YtnjplfcmojeedaaRes
import Derived.Test.YtnjplfcmojeedaaPair
import Derived.Test.YtnjplfcmojeedaaQuiet
import Derived.BigQuiet
namespace Go.Proofs.Ytnjplfcmojeedaa
open Go.RowKit
open Pl
/-- Two numbers of opposite signs. -/
def oppB (a b : Int) : Bool := (decide (0 < a) && decide (b < 0)) || (decide (a < 0) && decide (0 < b))
theorem areOpposite_any (a b : Int) (w : World) : Calls Try.prog 91 #[.int .i64 a, .int .i64 b] w fun e w' => e = .returned (.bool (oppB a b)) ∧ w = w' := by
  unfold oppB
  rcases Int.lt_trichotomy a 0 with h | rfl | h <;> rcases Int.lt_trichotomy b 0 with g | rfl | g
  all_goals
    go_enter Try.func91, Try.ntmps91
    go_wp2
    go_ret
    exact ⟨by simp <;> omega, rfl⟩
theorem l18Turned_any (a b : Int) (w : World) : Calls Try.prog 89 #[.int .i64 a, .int .i64 b] w fun e w' => e = .returned (.bool (oppB a b)) ∧ w = w' := by
  unfold oppB
  rcases Int.lt_trichotomy a 0 with h | rfl | h <;> rcases Int.lt_trichotomy b 0 with g | rfl | g
  all_goals
    go_enter Try.func89, Try.ntmps89
    go_wp2
    go_ret
    exact ⟨by simp <;> omega, rfl⟩
def revN (xs ys : List Int) : Nat → List Int | 0 => [] | k + 1 => if oppB (xs.getD k 0) (ys.getD k 0) then revN xs ys k ++ [(k : Int)] else revN xs ys k
theorem revN_len (xs ys : List Int) : ∀ k, (revN xs ys k).length ≤ k
  | 0 => by simp [revN]
  | k + 1 => by
    have := revN_len xs ys k
    unfold revN
    split
    · rw [List.length_append]; simp; omega
    · omega
def revF (xs ys : List Int) : List Int × Int := if xs.length ≤ 24 ∧ ys.length = xs.length ∧ (allIn xs (-100000) 100000 && allIn ys (-100000) 100000) = true then (revN xs ys xs.length, 0) else ([], 2)
theorem revF_len (xs ys : List Int) (hn : (xs.length : Int) ≤ 1048576) (_ : (ys.length : Int) ≤ 1048576) : (revF xs ys).1.length ≤ 1048576 := by
  unfold revF
  split
  · have := revN_len xs ys xs.length; show (revN xs ys xs.length).length ≤ _; omega
  · simp
set_option maxRecDepth 100000 in
theorem ReversedBy_i (A : Option Addr) (c : Nat) (xs : List Int) (A' : Option Addr) (c' : Nat) (ys : List Int) (w : World) (hn : (xs.length : Int) ≤ 1048576) (hI : Ints w.heap.size w A xs) (hT : Fits xs) (_ : (ys.length : Int) ≤ 1048576) (hI' : Ints w.heap.size w A' ys) (hT' : Fits ys) :
    Calls Try.prog 38 #[.slice A xs.length c, .slice A' ys.length c'] w fun e w' => ∃ v, e = .returned (.tuple #[v, .int .i64 (revF xs ys).2]) ∧ Own w.heap.size w' v (revF xs ys).1 ∧ Below w.heap.size w w' := by
  have HN := Lib.hid (Own.nil_ w.heap.size)
  have J := Lib.hid hI
  have J' := Lib.hid hI'
  unfold revF
  by_cases h24 : xs.length ≤ 24
  · by_cases hl : ys.length = xs.length
    · obtain ⟨n, hxn⟩ : ∃ n, xs.length = n := ⟨_, rfl⟩
      have hyn : ys.length = n := by omega
      have W1 := fun (W : World) (hb : Below w.heap.size w W) => allWithin_any A c xs (-100000) 100000 w.heap.size W (by omega) (hI.below hb) hb.size hT
      have W2 := fun (W : World) (hb : Below w.heap.size w W) => allWithin_any A' c' ys (-100000) 100000 w.heap.size W (by omega) (hI'.below hb) hb.size hT'
      rw [hxn] at W1
      rw [hyn] at W2
      cases h1 : allIn xs (-100000) 100000
      · rw [h1] at W1
        have W1 := Lib.hid W1
        rw [if_neg (by simp), hxn, hyn]
        have hn24 : (n : Int) ≤ 24 := by omega
        clear hI hI' hT hT' hxn hyn hl h24 W2 hn
        go_enter Try.func38, Try.ntmps38
        go_wp2_with fail
        refine (W1.out _ (Below.refl _ _)).mono ?_
        rintro e w1 ⟨rfl, hb1⟩
        go_wp2
        go_ret2
        exact ⟨_, rfl, HN.out w1, hb1⟩
      · rw [h1] at W1
        cases h2 : allIn ys (-100000) 100000
        · rw [h2] at W2
          have W1 := Lib.hid W1
          have W2 := Lib.hid W2
          rw [if_neg (by simp), hxn, hyn]
          have hn24 : (n : Int) ≤ 24 := by omega
          clear hI hI' hT hT' hxn hyn hl h24 hn
          go_enter Try.func38, Try.ntmps38
          go_wp2_with fail
          refine (W1.out _ (Below.refl _ _)).mono ?_
          rintro e w1 ⟨rfl, hb1⟩
          go_wp2_with fail
          refine (W2.out _ hb1).mono ?_
          rintro e w2 ⟨rfl, hb2⟩
          go_wp2
          go_ret2
          exact ⟨_, rfl, HN.out w2, hb1.trans (hb2.mono hb1.size)⟩
        · rw [h2] at W2
          have W1 := Lib.hid W1
          have W2 := Lib.hid W2
          rw [if_pos ⟨h24, hl, rfl⟩, hxn, hyn]
          have hn24 : (n : Int) ≤ 24 := by omega
          obtain ⟨i0, hi, hz0, hz1, hz2⟩ := info_parts infoI
          have HF := Lib.hid (And.intro hi (And.intro hz0 (And.intro hz1 hz2)))
          have HX := Lib.hid hxn
          have HY := Lib.hid hyn
          clear hI hI' hT hT' hxn hyn hl h24 hn hi hz0 hz1 hz2
          go_enter Try.func38, Try.ntmps38
          go_wp2_with fail
          refine (W1.out _ (Below.refl _ _)).mono ?_
          rintro e w1 ⟨rfl, hb1⟩
          go_wp2_with fail
          refine (W2.out _ hb1).mono ?_
          rintro e w2 ⟨rfl, hb2⟩
          have hb12 := hb1.trans (hb2.mono hb1.size)
          go_wp2
          go_loopw [6, 31] (fun v i wr => ∃ k : Nat, k ≤ n ∧ i = .int .i64 k ∧ Below w.heap.size w wr ∧ Own w.heap.size wr v (revN xs ys k)) (fun _ i _ => n - (intOf i).toNat)
          case atStart => exact ⟨0, Nat.zero_le _, rfl, hb12, HN.out w2⟩
          case round =>
            obtain ⟨k, hk, rfl, hb, ho⟩ := hrel
            by_cases hlt : k < n
            · obtain ⟨ad, rfl, _, hc1⟩ := (J.out.below hb).at_ (k := k) (by rw [HX.out]; exact hlt)
              obtain ⟨ad', rfl, _, hc2⟩ := (J'.out.below hb).at_ (k := k) (by rw [HY.out]; exact hlt)
              rw [← getD_pr] at hc1 hc2
              have hlen := revN_len xs ys k
              have hsz := hb.size
              have HO := Lib.hid ho
              clear ho
              cases ho : oppB (xs.getD k 0) (ys.getD k 0)
              · have hs : revN xs ys (k + 1) = revN xs ys k := by rw [revN, ho]; rfl
                have HS := Lib.hid hs
                have HP := Lib.hid (fun W => eqb (areOpposite_any (xs.getD k 0) (ys.getD k 0) W) ho)
                clear hs ho
                generalize xs.getD k 0 = x at *
                generalize ys.getD k 0 = y at *
                go_wp2_with (go_at_call 91; refine (HP.out _).mono ?_; rintro e w' ⟨rfl, rfl⟩)
                go_roundw
                case rel => exact ⟨k + 1, by omega, by go_num, hb, by rw [HS.out]; exact HO.out⟩
                case measure => simp [intOf]; omega
              · have hs : revN xs ys (k + 1) = revN xs ys k ++ [(k : Int)] := by rw [revN, ho]; rfl
                have HS := Lib.hid hs
                have HP := Lib.hid (fun W => eqb (areOpposite_any (xs.getD k 0) (ys.getD k 0) W) ho)
                clear hs ho
                generalize xs.getD k 0 = x at *
                generalize ys.getD k 0 = y at *
                go_wp2_with (first | (go_at_call 91; refine (HP.out _).mono ?_; rintro e w' ⟨rfl, rfl⟩) | (at_builtin; refine wpList_append_own_at _ rfl _ _ 34 rfl w.heap.size 2 i0 (.int .i64 0) 1 8 Try.underlying34 HF.out.1 HF.out.2.1 HF.out.2.2.1 HF.out.2.2.2 rfl (by decide) _ _ _ rfl (HO.out.later ((Below.refl _ _).alloc (Nat.le_refl _) _)) ⟨wr.heap.size, 0, none⟩ 1 1 [.int .i64 (k : Int)] rfl rfl (cell_one_new _ _ _) (by intro u hu; simp at hu; subst hu; rfl) (le_max (by omega)) (by omega) (by simp; omega) ?_; intro av aw ah ag an aa))
                go_roundw
                case rel => exact ⟨k + 1, by omega, by go_num, Below.appended hb HO.out hsz ag, by rw [HS.out]; exact Own.appended ah⟩
                case measure => simp [intOf]; omega
            · obtain rfl : k = n := by omega
              have HO := Lib.hid ho
              clear ho
              go_wp2
              go_ret2
              exact ⟨_, rfl, HO.out, hb⟩
    · rw [if_neg (fun h => hl h.2.1)]
      have hne : ((ys.length : Int) != (xs.length : Int)) = true := by rw [bne_iff_ne]; omega
      have hi24 : (xs.length : Int) ≤ 24 := by omega
      clear hl h24 hI hI' hT hT'
      go_enter Try.func38, Try.ntmps38
      go_wp2
      go_ret2
      exact ⟨_, rfl, HN.out w, Below.refl _ _⟩
  · rw [if_neg (fun h => h24 h.1)]
    have hi24 : (24 : Int) < (xs.length : Int) := by omega
    clear h24 hI hI' hT hT'
    go_enter Try.func38, Try.ntmps38
    go_wp2
    go_ret2
    exact ⟨_, rfl, HN.out w, Below.refl _ _⟩
set_option maxRecDepth 100000 in
theorem ReversedBy_s (A : Option Addr) (c : Nat) (xs : List Int) (A' : Option Addr) (c' : Nat) (ys : List Int) (w : World) (hn : (xs.length : Int) ≤ 1048576) (hI : Ints w.heap.size w A xs) (_ : Fits xs) (_ : (ys.length : Int) ≤ 1048576) (hI' : Ints w.heap.size w A' ys) (_ : Fits ys) :
    Calls Try.prog 37 #[.slice A xs.length c, .slice A' ys.length c'] w fun e w' => ∃ v, e = .returned (.tuple #[v, .int .i64 (revF xs ys).2]) ∧ Own w.heap.size w' v (revF xs ys).1 ∧ Below w.heap.size w w' := by
  have HN := Lib.hid (Own.nil_ w.heap.size)
  have J := Lib.hid hI
  have J' := Lib.hid hI'
  clear hI hI'
  unfold revF
  by_cases h24 : xs.length ≤ 24
  · by_cases hl : ys.length = xs.length
    · obtain ⟨n, hxn⟩ : ∃ n, xs.length = n := ⟨_, rfl⟩
      have hyn : ys.length = n := by omega
      have hn24 : (n : Int) ≤ 24 := by omega
      obtain ⟨i0, hi, hz0, hz1, hz2⟩ := info_parts infoI
      have HF := Lib.hid (And.intro hi (And.intro hz0 (And.intro hz1 hz2)))
      have HX := Lib.hid hxn
      have HY := Lib.hid hyn
      have HSP := Lib.hid (pair_split xs ys n hxn hyn (-100000) 100000 (-100000) 100000)
      obtain ⟨R, hR⟩ : ∃ R : List Int × Int, (if xs.length ≤ 24 ∧ ys.length = xs.length ∧ (allIn xs (-100000) 100000 && allIn ys (-100000) 100000) = true then (revN xs ys xs.length, (0 : Int)) else ([], 2)) = R := ⟨_, rfl⟩
      rw [hR, hxn, hyn]
      have HRG := Lib.hid (fun h : (allIn xs (-100000) 100000 && allIn ys (-100000) 100000) = true => show (revN xs ys n, (0 : Int)) = R by rw [← hR, if_pos ⟨h24, hl, h⟩, hxn])
      have HRB := Lib.hid (fun h : (allIn xs (-100000) 100000 && allIn ys (-100000) 100000) = false => show (([] : List Int), (2 : Int)) = R by rw [← hR, if_neg (fun g => by rw [h] at g; exact absurd g.2.2 (by simp))])
      obtain ⟨N, hN, hG, hB⟩ : ∃ N, N ≤ n ∧ (∀ k, k < N → inB (xs.getD k 0) (-100000) 100000 = true ∧ inB (ys.getD k 0) (-100000) 100000 = true) ∧
          ((N = n ∧ (revN xs ys n, (0 : Int)) = R) ∨ (N < n ∧ (inB (xs.getD N 0) (-100000) 100000 = false ∨ inB (xs.getD N 0) (-100000) 100000 = true ∧ inB (ys.getD N 0) (-100000) 100000 = false) ∧ (([] : List Int), (2 : Int)) = R)) := by
        rcases HSP.out with ⟨h, g⟩ | ⟨h, m, h1, h2, g⟩
        · exact ⟨n, Nat.le_refl _, g, .inl ⟨rfl, HRG.out h⟩⟩
        · exact ⟨m, by omega, g, .inr ⟨h1, h2, HRB.out h⟩⟩
      have HG := Lib.hid hG
      have HB := Lib.hid hB
      clear hxn hyn hl h24 hn hi hz0 hz1 hz2 hR HRG HRB HSP hG hB
      go_enter Try.func37, Try.ntmps37
      go_wp2
      go_loopw [6, 7] (fun v i wr => ∃ k : Nat, k ≤ N ∧ i = .int .i64 k ∧ Below w.heap.size w wr ∧ Own w.heap.size wr v (revN xs ys k)) (fun _ i _ => n - (intOf i).toNat)
      case atStart => exact ⟨0, Nat.zero_le _, rfl, (Below.refl _ _).alloc (Nat.le_refl _) _, Own.empty (Nat.le_refl _)⟩
      case round =>
        obtain ⟨k, hk, rfl, hb, ho⟩ := hrel
        by_cases hkn : k < n
        · obtain ⟨ad, rfl, _, hc1⟩ := (J.out.below hb).at_ (k := k) (by rw [HX.out]; exact hkn)
          obtain ⟨ad', rfl, _, hc2⟩ := (J'.out.below hb).at_ (k := k) (by rw [HY.out]; exact hkn)
          rw [← getD_pr] at hc1 hc2
          by_cases hlt : k < N
          · obtain ⟨g1, g2⟩ := HG.out k hlt
            have hlen := revN_len xs ys k
            have hsz := hb.size
            have HO := Lib.hid ho
            have j0 : (0 : Int) ≤ k := by omega
            have j1 : (k : Int) < n := by omega
            clear ho
            cases ho : oppB (xs.getD k 0) (ys.getD k 0)
            · have hs : revN xs ys (k + 1) = revN xs ys k := by rw [revN, ho]; rfl
              have HS := Lib.hid hs
              have HP := Lib.hid (fun W => eqb (l18Turned_any (xs.getD k 0) (ys.getD k 0) W) ho)
              clear hs ho
              generalize xs.getD k 0 = x at *
              generalize ys.getD k 0 = y at *
              go_wp2_with (go_at_call 88; refine (l03Flow_any _ _).mono ?_; rintro e w' ⟨rfl, rfl⟩)
              go_quiet ((go_at_call 89; first | exact quiet_s (HP.out _) | exact quiet_s2 (HP.out _)))
              go_wp2
              go_roundw
              case rel => exact ⟨k + 1, by omega, by go_num, below_drewN hb _, by rw [HS.out]; exact HO.out.later (below_drewN (Below.refl _ _) _)⟩
              case measure => simp [intOf]; omega
            · have hs : revN xs ys (k + 1) = revN xs ys k ++ [(k : Int)] := by rw [revN, ho]; rfl
              have HS := Lib.hid hs
              have HP := Lib.hid (fun W => eqb (l18Turned_any (xs.getD k 0) (ys.getD k 0) W) ho)
              clear hs ho
              generalize xs.getD k 0 = x at *
              generalize ys.getD k 0 = y at *
              go_wp2_with (go_at_call 88; refine (l03Flow_any _ _).mono ?_; rintro e w' ⟨rfl, rfl⟩)
              go_quiet ((go_at_call 89; first | exact quiet_s (HP.out _) | exact quiet_s2 (HP.out _)))
              have hb2 := below_drewN hb nq
              have HO2 := Lib.hid (HO.out.later (below_drewN (Below.refl _ _) nq))
              generalize wr.drewN nq = wd at *
              have hsz := hb2.size
              go_wp2_with (at_builtin; refine wpList_append_own_at _ rfl _ _ 34 rfl w.heap.size 2 i0 (.int .i64 0) 1 8 Try.underlying34 HF.out.1 HF.out.2.1 HF.out.2.2.1 HF.out.2.2.2 rfl (by decide) _ _ _ rfl (HO2.out.later ((Below.refl _ _).alloc (Nat.le_refl _) _)) ⟨wd.heap.size, 0, none⟩ 1 1 [.int .i64 (k : Int)] rfl rfl (cell_one_new _ _ _) (by intro u hu; simp at hu; subst hu; rfl) (le_max (by omega)) (by omega) (by simp; omega) ?_; intro av aw ah ag an aa)
              go_roundw
              case rel => exact ⟨k + 1, by omega, by go_num, Below.appended hb2 HO2.out hsz ag, by rw [HS.out]; exact Own.appended ah⟩
              case measure => simp [intOf]; omega
          · obtain rfl : N = k := by omega
            rcases HB.out with ⟨h, _⟩ | ⟨_, h2, h3⟩
            · omega
            · have HR := Lib.hid h3
              clear h3 ho
              rcases h2 with h2 | ⟨h2, h4⟩
              · generalize xs.getD N 0 = x at *
                generalize ys.getD N 0 = y at *
                go_wp2_with (go_at_call 88; refine (l03Flow_any _ _).mono ?_; rintro e w' ⟨rfl, rfl⟩)
                go_ret2
                exact ⟨.slice none 0 0, by rw [← HR.out]; rfl, by rw [← HR.out]; exact HN.out wr, hb⟩
              · generalize xs.getD N 0 = x at *
                generalize ys.getD N 0 = y at *
                go_wp2_with (go_at_call 88; refine (l03Flow_any _ _).mono ?_; rintro e w' ⟨rfl, rfl⟩)
                go_ret2
                exact ⟨.slice none 0 0, by rw [← HR.out]; rfl, by rw [← HR.out]; exact HN.out wr, hb⟩
        · obtain rfl : k = n := by omega
          rcases HB.out with ⟨_, h3⟩ | ⟨h, _⟩
          · have HR := Lib.hid h3
            have HO := Lib.hid ho
            clear h3 ho
            go_wp2
            go_ret2
            exact ⟨_, by rw [← HR.out]; rfl, by rw [← HR.out]; exact HO.out, hb⟩
          · omega
    · rw [if_neg (fun h => hl h.2.1)]
      have hne : ((ys.length : Int) != (xs.length : Int)) = true := by rw [bne_iff_ne]; omega
      have hi24 : (xs.length : Int) ≤ 24 := by omega
      clear hl h24
      go_enter Try.func37, Try.ntmps37
      go_wp2
      go_ret2
      exact ⟨_, rfl, HN.out w, Below.refl _ _⟩
  · rw [if_neg (fun h => h24 h.1)]
    have hi24 : (24 : Int) < (xs.length : Int) := by omega
    clear h24
    go_enter Try.func37, Try.ntmps37
    go_wp2
    go_ret2
    exact ⟨_, rfl, HN.out w, Below.refl _ _⟩
theorem fnExactReversedBy_walk {w : World} (A0 : Option Addr) (c0 : Nat) (xs0 : List Int) (I0 : Ints w.heap.size w A0 xs0) (T0 : Fits xs0) (_ : xs0.length ≤ maxLen) (A1 : Option Addr) (c1 : Nat) (xs1 : List Int) (I1 : Ints w.heap.size w A1 xs1) (T1 : Fits xs1) (_ : xs1.length ≤ maxLen) :
    Calls Try.prog 11 #[.slice A0 xs0.length c0, .slice A1 xs1.length c1] w fun e w' => e = .returned (.bool true) ∧ Below w.heap.size w w' := by
  by_cases hn0 : (xs0.length : Int) ≤ 1048576
  rotate_left
  · go_enter Try.func11, Try.ntmps11
    go_wp2
    go_ret
    exact ⟨rfl, Below.refl _ _⟩
  by_cases hn1 : (xs1.length : Int) ≤ 1048576
  rotate_left
  · go_enter Try.func11, Try.ntmps11
    go_wp2
    go_ret
    exact ⟨rfl, Below.refl _ _⟩
  have hR : (revF xs0 xs1).1.length ≤ 1048576 := revF_len xs0 xs1 hn0 hn1
  have be0 := Below.refl w.heap.size w
  have HT0 := Lib.hid T0
  have HI0 := Lib.hid I0
  have HT1 := Lib.hid T1
  have HI1 := Lib.hid I1
  clear T0 I0 T1 I1
  go_enter Try.func11, Try.ntmps11
  go_wp2_with fail
  refine (toInt64S_any A0 c0 xs0 w.heap.size _ (by omega) (HI0.out.below be0) be0.size).mono ?_
  rintro e w1 ⟨rfl, ho1, hb1⟩
  have sz1 : w.heap.size ≤ w1.heap.size := hb1.size
  have be1 := be0.trans (hb1.mono be0.size)
  have ko1 := Lib.hid ho1
  clear ho1
  have kb1 := Lib.hid hb1
  clear hb1
  go_wp2_with fail
  refine (toInt64S_any A1 c1 xs1 w.heap.size _ (by omega) (HI1.out.below be1) be1.size).mono ?_
  rintro e w2 ⟨rfl, ho2, hb2⟩
  have sz2 : w1.heap.size ≤ w2.heap.size := hb2.size
  have be2 := be1.trans (hb2.mono be1.size)
  have ko2 := Lib.hid ho2
  clear ho2
  have kb2 := Lib.hid hb2
  clear hb2
  go_wp2_with fail
  refine (ReversedBy_s _ _ xs0 _ _ xs1 _ hn0 ((ko1.out).later kb2.out).ints HT0.out hn1 (ko2.out).ints HT1.out).mono ?_
  rintro e w3 ⟨v3, rfl, ho3, hb3⟩
  obtain ⟨A_3, c_3, rfl, -, -⟩ := ho3.slice
  have sz3 : w2.heap.size ≤ w3.heap.size := hb3.size
  have be3 := be2.trans (hb3.mono be2.size)
  have ko3 := Lib.hid ho3
  clear ho3
  have kb3 := Lib.hid hb3
  clear hb3
  go_wp2_with fail
  refine (toInt64S_any A0 c0 xs0 w.heap.size _ (by omega) (HI0.out.below be3) be3.size).mono ?_
  rintro e w4 ⟨rfl, ho4, hb4⟩
  have sz4 : w3.heap.size ≤ w4.heap.size := hb4.size
  have be4 := be3.trans (hb4.mono be3.size)
  have ko4 := Lib.hid ho4
  clear ho4
  have kb4 := Lib.hid hb4
  clear hb4
  go_wp2_with fail
  refine (toInt64S_any A1 c1 xs1 w.heap.size _ (by omega) (HI1.out.below be4) be4.size).mono ?_
  rintro e w5 ⟨rfl, ho5, hb5⟩
  have sz5 : w4.heap.size ≤ w5.heap.size := hb5.size
  have be5 := be4.trans (hb5.mono be4.size)
  have ko5 := Lib.hid ho5
  clear ho5
  have kb5 := Lib.hid hb5
  clear hb5
  go_wp2_with fail
  refine (ReversedBy_i _ _ xs0 _ _ xs1 _ hn0 ((ko4.out).later kb5.out).ints HT0.out hn1 (ko5.out).ints HT1.out).mono ?_
  rintro e w6 ⟨v6, rfl, ho6, hb6⟩
  obtain ⟨A_6, c_6, rfl, -, -⟩ := ho6.slice
  have sz6 : w5.heap.size ≤ w6.heap.size := hb6.size
  have be6 := be5.trans (hb6.mono be5.size)
  have ko6 := Lib.hid ho6
  clear ho6
  have kb6 := Lib.hid hb6
  clear hb6
  go_wp2_with fail
  refine (dB (eqInt64S_yes _ _ _ _ (revF xs0 xs1).1 _ _ _ (by omega) (ko6.out).ints ((((ko3.out).later kb4.out).later kb5.out).later kb6.out).ints)).mono ?_
  rintro e w7 ⟨rfl, hb7⟩
  have sz7 : w6.heap.size ≤ w7.heap.size := hb7.size
  have be7 := be6.trans (hb7.mono be6.size)
  have kb7 := Lib.hid hb7
  clear hb7
  go_wp2_with fail
  refine (toInt64S_any A0 c0 xs0 w.heap.size _ (by omega) (HI0.out.below be7) be7.size).mono ?_
  rintro e w8 ⟨rfl, ho8, hb8⟩
  have sz8 : w7.heap.size ≤ w8.heap.size := hb8.size
  have be8 := be7.trans (hb8.mono be7.size)
  have ko8 := Lib.hid ho8
  clear ho8
  have kb8 := Lib.hid hb8
  clear hb8
  go_wp2_with fail
  refine (dB (eqInt64S_yes _ _ _ _ xs0 _ _ _ (by omega) (((((ko4.out).later kb5.out).later kb6.out).later kb7.out).later kb8.out).ints (ko8.out).ints)).mono ?_
  rintro e w9 ⟨rfl, hb9⟩
  have sz9 : w8.heap.size ≤ w9.heap.size := hb9.size
  have be9 := be8.trans (hb9.mono be8.size)
  have kb9 := Lib.hid hb9
  clear hb9
  go_wp2_with fail
  refine (toInt64S_any A1 c1 xs1 w.heap.size _ (by omega) (HI1.out.below be9) be9.size).mono ?_
  rintro e w10 ⟨rfl, ho10, hb10⟩
  have sz10 : w9.heap.size ≤ w10.heap.size := hb10.size
  have be10 := be9.trans (hb10.mono be9.size)
  have ko10 := Lib.hid ho10
  clear ho10
  have kb10 := Lib.hid hb10
  clear hb10
  go_wp2_with fail
  refine (dB (eqInt64S_yes _ _ _ _ xs1 _ _ _ (by omega) ((((((ko5.out).later kb6.out).later kb7.out).later kb8.out).later kb9.out).later kb10.out).ints (ko10.out).ints)).mono ?_
  rintro e w11 ⟨rfl, hb11⟩
  have sz11 : w10.heap.size ≤ w11.heap.size := hb11.size
  have be11 := be10.trans (hb11.mono be10.size)
  have kb11 := Lib.hid hb11
  clear hb11
  go_wp2_with fail
  refine (markInt64S_own _ _ _ xs0 (1) _ _ (by omega) (by omega) (by omega) rfl ((((((((ko4.out).later kb5.out).later kb6.out).later kb7.out).later kb8.out).later kb9.out).later kb10.out).later kb11.out)).mono ?_
  rintro e w12 ⟨rfl, hp12, hg12⟩
  have sz12 : w11.heap.size ≤ w12.heap.size := hg12.size
  have be12 : Below w.heap.size w w12 := Own.grew be11 ((((((((ko4.out).later kb5.out).later kb6.out).later kb7.out).later kb8.out).later kb9.out).later kb10.out).later kb11.out) (by omega) be11.size hg12
  have kp12 := Lib.hid hp12
  clear hp12
  have kg12 := Lib.hid hg12
  clear hg12
  go_wp2_with fail
  refine (markInt64S_own _ _ _ xs1 (1 + (xs0.length : Int)) _ _ (by omega) (by omega) (by omega) rfl ((((((((ko5.out).later kb6.out).later kb7.out).later kb8.out).later kb9.out).later kb10.out).later kb11.out).kept kg12.out (ko5.out.apart ko4.out (by omega)))).mono ?_
  rintro e w13 ⟨rfl, hp13, hg13⟩
  have sz13 : w12.heap.size ≤ w13.heap.size := hg13.size
  have be13 : Below w.heap.size w w13 := Own.grew be12 ((((((((ko5.out).later kb6.out).later kb7.out).later kb8.out).later kb9.out).later kb10.out).later kb11.out).kept kg12.out (ko5.out.apart ko4.out (by omega))) (by omega) be12.size hg13
  have kp13 := Lib.hid hp13
  clear hp13
  have kg13 := Lib.hid hg13
  clear hg13
  go_wp2_with fail
  refine (dB (eqInt64S_yes _ _ _ _ (revF xs0 xs1).1 _ _ _ (by omega) ((((((((ko6.out).later kb7.out).later kb8.out).later kb9.out).later kb10.out).later kb11.out).kept kg12.out (ko6.out.apart ko4.out (by omega))).kept kg13.out (ko6.out.apart ko5.out (by omega))).ints (((((((((((ko3.out).later kb4.out).later kb5.out).later kb6.out).later kb7.out).later kb8.out).later kb9.out).later kb10.out).later kb11.out).kept kg12.out (ko3.out.apart ko4.out (by omega))).kept kg13.out (ko3.out.apart ko5.out (by omega))).ints)).mono ?_
  rintro e w14 ⟨rfl, hb14⟩
  have sz14 : w13.heap.size ≤ w14.heap.size := hb14.size
  have be14 := be13.trans (hb14.mono be13.size)
  have kb14 := Lib.hid hb14
  clear hb14
  go_wp2_with fail
  refine (markInt64S_own _ _ _ (revF xs0 xs1).1 1 _ _ (by omega) (by omega) (by omega) rfl (((((((((ko6.out).later kb7.out).later kb8.out).later kb9.out).later kb10.out).later kb11.out).kept kg12.out (ko6.out.apart ko4.out (by omega))).kept kg13.out (ko6.out.apart ko5.out (by omega))).later kb14.out)).mono ?_
  rintro e w15 ⟨rfl, hp15, hg15⟩
  have sz15 : w14.heap.size ≤ w15.heap.size := hg15.size
  have be15 : Below w.heap.size w w15 := Own.grew be14 (((((((((ko6.out).later kb7.out).later kb8.out).later kb9.out).later kb10.out).later kb11.out).kept kg12.out (ko6.out.apart ko4.out (by omega))).kept kg13.out (ko6.out.apart ko5.out (by omega))).later kb14.out) (by omega) be14.size hg15
  have kp15 := Lib.hid hp15
  clear hp15
  have kg15 := Lib.hid hg15
  clear hg15
  go_wp2_with fail
  refine (sB (heldInt64S_any _ _ (revF xs0 xs1).1.length 1 _ _ (by omega) (by omega) (by omega) (kp15.out).ints)).mono ?_
  rintro e w16 ⟨rfl, hb16⟩
  have sz16 : w15.heap.size ≤ w16.heap.size := hb16.size
  have be16 := be15.trans (hb16.mono be15.size)
  have kb16 := Lib.hid hb16
  clear hb16
  go_wp2_with fail
  refine (toInt64S_any A0 c0 xs0 w.heap.size _ (by omega) (HI0.out.below be16) be16.size).mono ?_
  rintro e w17 ⟨rfl, ho17, hb17⟩
  have sz17 : w16.heap.size ≤ w17.heap.size := hb17.size
  have be17 := be16.trans (hb17.mono be16.size)
  have ko17 := Lib.hid ho17
  clear ho17
  have kb17 := Lib.hid hb17
  clear hb17
  go_wp2_with fail
  refine (toInt64S_any A1 c1 xs1 w.heap.size _ (by omega) (HI1.out.below be17) be17.size).mono ?_
  rintro e w18 ⟨rfl, ho18, hb18⟩
  have sz18 : w17.heap.size ≤ w18.heap.size := hb18.size
  have be18 := be17.trans (hb18.mono be17.size)
  have ko18 := Lib.hid ho18
  clear ho18
  have kb18 := Lib.hid hb18
  clear hb18
  go_wp2_with fail
  refine (ReversedBy_i _ _ xs0 _ _ xs1 _ hn0 ((ko17.out).later kb18.out).ints HT0.out hn1 (ko18.out).ints HT1.out).mono ?_
  rintro e w19 ⟨v19, rfl, ho19, hb19⟩
  obtain ⟨A_19, c_19, rfl, -, -⟩ := ho19.slice
  have sz19 : w18.heap.size ≤ w19.heap.size := hb19.size
  have be19 := be18.trans (hb19.mono be18.size)
  have ko19 := Lib.hid ho19
  clear ho19
  have kb19 := Lib.hid hb19
  clear hb19
  go_wp2_with fail
  refine (dB (eqInt64S_yes _ _ _ _ (revF xs0 xs1).1 _ _ _ (by omega) (ko19.out).ints (((((((((((((((((ko3.out).later kb4.out).later kb5.out).later kb6.out).later kb7.out).later kb8.out).later kb9.out).later kb10.out).later kb11.out).kept kg12.out (ko3.out.apart ko4.out (by omega))).kept kg13.out (ko3.out.apart ko5.out (by omega))).later kb14.out).kept kg15.out (ko3.out.apart ko6.out (by omega))).later kb16.out).later kb17.out).later kb18.out).later kb19.out).ints)).mono ?_
  rintro e w20 ⟨rfl, hb20⟩
  have sz20 : w19.heap.size ≤ w20.heap.size := hb20.size
  have be20 := be19.trans (hb20.mono be19.size)
  have kb20 := Lib.hid hb20
  clear hb20
  go_wp2_with fail
  refine (sB (heldInt64S_any _ _ (revF xs0 xs1).1.length 1 _ _ (by omega) (by omega) (by omega) ((((((kp15.out).later kb16.out).later kb17.out).later kb18.out).later kb19.out).later kb20.out).ints)).mono ?_
  rintro e w21 ⟨rfl, hb21⟩
  have sz21 : w20.heap.size ≤ w21.heap.size := hb21.size
  have be21 := be20.trans (hb21.mono be20.size)
  have kb21 := Lib.hid hb21
  clear hb21
  go_wp2_with fail
  go_ret
  exact ⟨rfl, be21⟩
end Go.Proofs.Ytnjplfcmojeedaa
