/- The hottest junction: the program's and the reference's; and the walk of the law. Conditions: the bounds that each theorem names. -/
import Derived.Test.YtnjplfcmojeedaaBase
import Derived.Test.YtnjplfcmojeedaaList
import Derived.Test.YtnjplfcmojeedaaHof
import Derived.IntWalk
import Derived.BigQuiet
namespace Go.Proofs.Ytnjplfcmojeedaa
open Go.RowKit
open Pl
theorem getD_ax {xs : List Int} {k : Nat} (h : k < xs.length) : xs.getD k 0 = xs[k] := by simp [List.getD, h]
/-- A number that is no temperature of a junction. -/
def hotBad (x : Int) : Bool := (x != -1000) && !(inB x (-100) 600)
def hot (xs : List Int) : Nat → Int × Int | 0 => (-1, -1000) | k + 1 => if (hot xs k).2 < xs.getD k 0 then ((k : Int), xs.getD k 0) else hot xs k
theorem hotBad_no {x : Int} (h : hotBad x = false) : x = -1000 ∨ -100 ≤ x ∧ x ≤ 600 := by
  unfold hotBad at h
  by_cases e : x = -1000
  · exact .inl e
  · right
    have : (x != -1000) = true := by simp; exact e
    rw [this] at h
    simp at h
    exact inB_iff.1 h
theorem hot_inv {xs : List Int} (h : ∀ k, k < xs.length → hotBad (xs.getD k 0) = false) : ∀ k, k ≤ xs.length →
    (hot xs k = (-1, -1000)) ∨ ∃ m : Nat, m < k ∧ hot xs k = ((m : Int), xs.getD m 0) ∧ -100 ≤ xs.getD m 0 ∧ xs.getD m 0 ≤ 600
  | 0, _ => .inl rfl
  | k + 1, hk => by
    have ih := hot_inv h k (by omega)
    unfold hot
    split
    · next hlt =>
      refine .inr ⟨k, by omega, rfl, ?_⟩
      rcases hotBad_no (h k (by omega)) with e | e
      · rcases ih with i | ⟨m, _, i, _⟩
        · rw [i, e] at hlt; exact absurd hlt (by simp)
        · rw [i, e] at hlt
          have hlt' : xs.getD m 0 < -1000 := hlt
          omega
      · exact e
    · rcases ih with i | ⟨m, h1, h2⟩
      · exact .inl i
      · exact .inr ⟨m, by omega, h2⟩
def hottestF (xs : List Int) : Int × Int × Int := if xs.length ≤ 16 ∧ xs.any hotBad = false then (if (hot xs xs.length).1 < 0 then (0, 0, 3) else ((hot xs xs.length).1, (hot xs xs.length).2, 0)) else (0, 0, 2)
theorem hot1_any (x : Int) (w : World) : Calls Try.prog 79 #[.int .i64 x] w fun e w' => e = .returned (.bool (hotBad x)) ∧ Below w.heap.size w w' := by
  unfold hotBad
  by_cases h : x = -1000
  · subst h
    go_enter Try.func79, Try.ntmps79
    go_wp2
    go_ret
    exact ⟨rfl, Below.refl _ _⟩
  · have h' : (x != -1000) = true := by simp; exact h
    rw [h']
    clear h
    go_enter Try.func79, Try.ntmps79
    go_wp2_with (go_at_call 80; refine (warmthOk_any _ _).mono ?_; rintro e w' ⟨rfl, rfl⟩)
    go_ret
    exact ⟨by simp, Below.refl _ _⟩
set_option maxRecDepth 100000 in
theorem HottestJunction_i (A : Option Addr) (c : Nat) (xs : List Int) (w : World) (hn : (xs.length : Int) ≤ 1048576) (hI : Ints w.heap.size w A xs) (hT : Fits xs) :
    Calls Try.prog 30 #[.slice A xs.length c] w fun e w' => e = .returned (.tuple #[.int .i64 (hottestF xs).1, .int .i64 (hottestF xs).2.1, .int .i64 (hottestF xs).2.2]) ∧ Below w.heap.size w w' := by
  unfold hottestF
  by_cases h16 : xs.length ≤ 16
  · have hi16 : (xs.length : Int) ≤ 16 := by omega
    have HW := Lib.hid (fun W hW => ContainsFunc_any 79 #[] (enters_of Try.func79 (by kernel_rfl) rfl) A c xs w.heap.size hotBad W (by omega) (hI.below hW) hW.size hT (fun W' x _ _ _ => hot1_any x W'))
    have J := Lib.hid hI
    clear hI hT
    cases ha : xs.any hotBad
    · have hg : ∀ k, k < xs.length → hotBad (xs.getD k 0) = false := fun k hk => by
        rw [getD_ax hk]
        have := List.any_eq_false.1 ha _ (List.getElem_mem hk)
        simpa using this
      have HH := Lib.hid (hot_inv hg)
      have HG := Lib.hid hg
      rw [if_pos ⟨h16, rfl⟩]
      rw [ha] at HW
      obtain ⟨R, hR⟩ : ∃ R : Int × Int × Int, (if (hot xs xs.length).1 < 0 then ((0 : Int), (0 : Int), (3 : Int)) else ((hot xs xs.length).1, (hot xs xs.length).2, 0)) = R := ⟨_, rfl⟩
      rw [hR]
      have HR := Lib.hid hR
      clear hg ha hR h16
      go_enter Try.func30, Try.ntmps30
      go_wp2_with fail
      refine (HW.out _ (Below.refl _ _)).mono ?_
      rintro e w1 ⟨rfl, hb1⟩
      go_wp2
      go_loop [5, 17] (fun b i => ∃ k : Nat, k ≤ xs.length ∧ i = .int .i64 k ∧ b = .int .i64 (hot xs k).1) (fun _ i => xs.length - (intOf i).toNat)
      case atStart => exact ⟨0, Nat.zero_le _, rfl, rfl⟩
      case round =>
        obtain ⟨k, hk, rfl, rfl⟩ := hrel
        have hinv := HH.out k hk
        by_cases hlt : k < xs.length
        · have hx := hotBad_no (HG.out k hlt)
          obtain ⟨ad, rfl, _, hc⟩ := (J.out.below hb1).at_ (k := k) hlt
          rw [← getD_ax] at hc
          have hk0 : (0 : Int) ≤ k := by omega
          have hk1 : (k : Int) < xs.length := by omega
          rcases hinv with hp | ⟨m, hm, hp, hm1, hm2⟩
          · rcases hx with hx | ⟨x1, x2⟩
            · have hs : hot xs (k + 1) = hot xs k := by rw [hot, hp, hx]; simp
              have HS := Lib.hid hs
              rw [hx] at hc
              rw [hp]
              have HP := Lib.hid hp
              clear hs hp hx
              go_wp2
              go_round
              case rel => exact ⟨k + 1, by omega, by go_num, by rw [HS.out, HP.out]⟩
              case measure => simp [intOf]; omega
            · have hs : hot xs (k + 1) = ((k : Int), xs.getD k 0) := by rw [hot, hp]; exact if_pos (show (-1000 : Int) < xs.getD k 0 by omega)
              have HS := Lib.hid hs
              rw [hp]
              clear hs hp
              have hq : (xs.getD k 0 != -1000) = true := by simp only [bne_iff_ne]; omega
              generalize xs.getD k 0 = x at *
              go_wp2
              go_round
              case rel => exact ⟨k + 1, by omega, by go_num, by rw [HS.out]⟩
              case measure => simp [intOf]; omega
          · obtain ⟨ad', h', _, hcm⟩ := (J.out.below hb1).at_ (k := m) (by omega)
            cases h'
            rw [← getD_ax] at hcm
            have hm0 : (0 : Int) ≤ m := by omega
            have hm3 : (m : Int) < xs.length := by omega
            rcases hx with hx | ⟨x1, x2⟩
            · have hs : hot xs (k + 1) = hot xs k := by rw [hot, hp, hx]; exact if_neg (show ¬ xs.getD m 0 < -1000 by omega)
              have HS := Lib.hid hs
              rw [hx] at hc
              rw [hp]
              have HP := Lib.hid hp
              clear hs hp hx hcm
              go_wp2
              go_round
              case rel => exact ⟨k + 1, by omega, by go_num, by rw [HS.out, HP.out]⟩
              case measure => simp [intOf]; omega
            · have hq : (xs.getD k 0 != -1000) = true := by simp only [bne_iff_ne]; omega
              by_cases hgt : xs.getD m 0 < xs.getD k 0
              · have hs : hot xs (k + 1) = ((k : Int), xs.getD k 0) := by rw [hot, hp]; exact if_pos hgt
                have HS := Lib.hid hs
                rw [hp]
                clear hs hp
                generalize xs.getD k 0 = x at *
                generalize xs.getD m 0 = y at *
                go_wp2
                go_round
                case rel => exact ⟨k + 1, by omega, by go_num, by rw [HS.out]⟩
                case measure => simp [intOf]; omega
              · have hs : hot xs (k + 1) = hot xs k := by rw [hot, hp]; exact if_neg hgt
                have HS := Lib.hid hs
                rw [hp]
                have HP := Lib.hid hp
                clear hs hp
                generalize xs.getD k 0 = x at *
                generalize xs.getD m 0 = y at *
                go_wp2
                go_round
                case rel => exact ⟨k + 1, by omega, by go_num, by rw [HS.out, HP.out]⟩
                case measure => simp [intOf]; omega
        · obtain rfl : k = xs.length := by omega
          rcases hinv with hp | ⟨m, hm, hp, hm1, hm2⟩
          · have hr := HR.out
            rw [hp] at hr ⊢
            have hr := Lib.hid hr
            clear hp
            go_wp2
            go_ret3
            exact ⟨by have h := hr.out; simp at h; subst h; rfl, hb1⟩
          · obtain ⟨ad, rfl, _, hcm⟩ := (J.out.below hb1).at_ (k := m) (by omega)
            rw [← getD_ax] at hcm
            have hr := HR.out
            rw [hp] at hr ⊢
            have HR2 := Lib.hid hr
            have hm0 : (0 : Int) ≤ m := by omega
            have hm3 : (m : Int) < xs.length := by omega
            clear hp hr
            generalize xs.getD m 0 = y at *
            go_wp2
            go_quiet (fail)
            go_wp2
            go_ret3
            exact ⟨by have h := HR2.out; rw [if_neg (by omega)] at h; subst h; rfl, below_drewN hb1 _⟩
    · rw [if_neg (by simp)]
      rw [ha] at HW
      clear ha h16
      go_enter Try.func30, Try.ntmps30
      go_wp2_with fail
      refine (HW.out _ (Below.refl _ _)).mono ?_
      rintro e w1 ⟨rfl, hb1⟩
      go_wp2
      go_ret3
      exact ⟨rfl, hb1⟩
  · have h' : (16 : Int) < xs.length := by omega
    rw [if_neg (fun h => h16 h.1)]
    clear h16
    go_enter Try.func30, Try.ntmps30
    go_wp2
    go_ret3
    exact ⟨rfl, Below.refl _ _⟩
set_option maxRecDepth 100000 in
theorem HottestJunction_s (A : Option Addr) (c : Nat) (xs : List Int) (w : World) (hn : (xs.length : Int) ≤ 1048576) (hI : Ints w.heap.size w A xs) (_ : Fits xs) :
    Calls Try.prog 29 #[.slice A xs.length c] w fun e w' => e = .returned (.tuple #[.int .i64 (hottestF xs).1, .int .i64 (hottestF xs).2.1, .int .i64 (hottestF xs).2.2]) ∧ Below w.heap.size w w' := by
  unfold hottestF
  by_cases h16 : xs.length ≤ 16
  · have hi16 : (xs.length : Int) ≤ 16 := by omega
    have J := Lib.hid hI
    clear hI
    obtain ⟨N, hN1, hN2, hN3, hN4⟩ := first_such hotBad xs
    have hg : ∀ k, k < N → hotBad (xs.getD k 0) = false := fun k hk => by
      rw [getD_ax (by omega)]; exact hN2 k (by omega) hk
    have hh : ∀ k, k ≤ N → (hot xs k = (-1, -1000)) ∨ ∃ m : Nat, m < k ∧ hot xs k = ((m : Int), xs.getD m 0) ∧ -100 ≤ xs.getD m 0 ∧ xs.getD m 0 ≤ 600 := fun k hk => by
      have hl : (xs.take N).length = N := by rw [List.length_take]; omega
      have hgd : ∀ j, j < N → (xs.take N).getD j 0 = xs.getD j 0 := fun j hj => by rw [getD_ax (by omega), getD_ax (by omega), List.getElem_take]
      have e : ∀ j, j ≤ N → hot (xs.take N) j = hot xs j := by
        intro j
        induction j with
        | zero => intro _; rfl
        | succ j ih => intro hj; rw [hot, hot, ih (by omega), hgd j (by omega)]
      have := hot_inv (xs := xs.take N) (fun j hj => by rw [hl] at hj; rw [hgd j hj]; exact hg j hj) k (by rw [hl]; exact hk)
      rw [e k hk] at this
      rcases this with h | ⟨m, h1, h2, h3⟩
      · exact .inl h
      · rw [hgd m (by omega)] at h2 h3; exact .inr ⟨m, h1, h2, h3⟩
    have hbad : N < xs.length → hotBad (xs.getD N 0) = true := fun h => by rw [getD_ax h]; exact hN3 h
    obtain ⟨R, hR⟩ : ∃ R : Int × Int × Int, (if xs.length ≤ 16 ∧ xs.any hotBad = false then (if (hot xs xs.length).1 < 0 then ((0 : Int), (0 : Int), (3 : Int)) else ((hot xs xs.length).1, (hot xs xs.length).2, 0)) else (0, 0, 2)) = R := ⟨_, rfl⟩
    rw [hR]
    have HR := Lib.hid hR
    have HH := Lib.hid hh
    have HG := Lib.hid hg
    have HB := Lib.hid hbad
    have HA := Lib.hid hN4
    clear hR hh hg hbad hN2 hN3 hN4
    go_enter Try.func29, Try.ntmps29
    go_wp2
    go_loop [5, 6, 7] (fun b t i => ∃ k : Nat, k ≤ N ∧ i = .int .i64 k ∧ b = .int .i64 (hot xs k).1 ∧ t = .int .i64 (hot xs k).2) (fun _ _ i => xs.length - (intOf i).toNat)
    case atStart => exact ⟨0, Nat.zero_le _, rfl, rfl, rfl⟩
    case round =>
      obtain ⟨k, hk, rfl, rfl, rfl⟩ := hrel
      have hinv := HH.out k hk
      by_cases hl : k < xs.length
      · obtain ⟨ad, rfl, _, hc⟩ := J.out.at_ (k := k) hl
        rw [← getD_ax] at hc
        have hk0 : (0 : Int) ≤ k := by omega
        have hk1 : (k : Int) < xs.length := by omega
        by_cases hlt : k < N
        · have hx := hotBad_no (HG.out k hlt)
          have hp2 : -1000 ≤ (hot xs k).2 := by
            rcases hinv with e | ⟨m, _, e, e1, _⟩
            · rw [e]; exact Int.le_refl _
            · rw [e]; show -1000 ≤ xs.getD m 0; omega
          by_cases hgt : (hot xs k).2 < xs.getD k 0
          · have hs : hot xs (k + 1) = ((k : Int), xs.getD k 0) := by rw [hot, if_pos hgt]
            have HS := Lib.hid hs
            have hin : inB (xs.getD k 0) (-100) 600 = true := inB_mk (by omega)
            have hq : (xs.getD k 0 != -1000) = true := by simp only [bne_iff_ne]; omega
            clear hs hx hinv
            generalize xs.getD k 0 = x at *
            generalize hot xs k = p at *
            go_wp2_with (go_at_call 77; refine (l02Temperature_any _ _).mono ?_; rintro e w' ⟨rfl, rfl⟩)
            go_round
            case rel => exact ⟨k + 1, by omega, by go_num, by rw [HS.out], by rw [HS.out]⟩
            case measure => simp [intOf]; omega
          · have hs : hot xs (k + 1) = hot xs k := by rw [hot, if_neg hgt]
            have HS := Lib.hid hs
            clear hs hinv
            generalize xs.getD k 0 = x at *
            generalize hot xs k = p at *
            rcases hx with rfl | ⟨x1, x2⟩
            · go_wp2_with (go_at_call 77; refine (l02Temperature_any _ _).mono ?_; rintro e w' ⟨rfl, rfl⟩)
              go_round
              case rel => exact ⟨k + 1, by omega, by go_num, by rw [HS.out], by rw [HS.out]⟩
              case measure => simp [intOf]; omega
            · have hin : inB x (-100) 600 = true := inB_mk (by omega)
              have hq : (x != -1000) = true := by simp only [bne_iff_ne]; omega
              go_wp2_with (go_at_call 77; refine (l02Temperature_any _ _).mono ?_; rintro e w' ⟨rfl, rfl⟩)
              go_round
              case rel => exact ⟨k + 1, by omega, by go_num, by rw [HS.out], by rw [HS.out]⟩
              case measure => simp [intOf]; omega
        · obtain rfl : k = N := by omega
          have hb := HB.out hl
          unfold hotBad at hb
          simp only [Bool.and_eq_true, Bool.not_eq_true'] at hb
          obtain ⟨hb1, hb2⟩ := hb
          clear hinv
          generalize xs.getD k 0 = x at *
          generalize hot xs k = p at *
          go_wp2_with (go_at_call 77; refine (l02Temperature_any _ _).mono ?_; rintro e w' ⟨rfl, rfl⟩)
          go_ret3
          exact ⟨by have h := HR.out; rw [if_neg (by rw [HA.out]; simp [hl])] at h; subst h; rfl, Below.refl _ _⟩
      · obtain rfl : k = xs.length := by omega
        obtain rfl : N = xs.length := by omega
        have hr := HR.out
        rw [if_pos ⟨h16, by rw [HA.out]; simp⟩] at hr
        rcases hinv with hp | ⟨m, hm, hp, hm1, hm2⟩
        · rw [hp] at hr ⊢
          have hr2 := Lib.hid hr
          clear hp hr
          go_wp2
          go_ret3
          exact ⟨by have h := hr2.out; simp at h; subst h; rfl, Below.refl _ _⟩
        · rw [hp] at hr ⊢
          have hr2 := Lib.hid hr
          clear hp hr
          generalize xs.getD m 0 = y at *
          go_wp2
          go_ret3
          exact ⟨by have h := hr2.out; rw [if_neg (by omega)] at h; subst h; rfl, Below.refl _ _⟩
  · have h' : (16 : Int) < xs.length := by omega
    rw [if_neg (fun h => h16 h.1)]
    clear h16
    go_enter Try.func29, Try.ntmps29
    go_wp2
    go_ret3
    exact ⟨rfl, Below.refl _ _⟩
theorem fnExactHottestJunction_walk {w : World} (A0 : Option Addr) (c0 : Nat) (xs0 : List Int) (I0 : Ints w.heap.size w A0 xs0) (T0 : Fits xs0) (_ : xs0.length ≤ maxLen) :
    Calls Try.prog 8 #[.slice A0 xs0.length c0] w fun e w' => e = .returned (.bool true) ∧ Below w.heap.size w w' := by
  by_cases hn0 : (xs0.length : Int) ≤ 1048576
  rotate_left
  · go_enter Try.func8, Try.ntmps8
    go_wp2
    go_ret
    exact ⟨rfl, Below.refl _ _⟩
  go_enter Try.func8, Try.ntmps8
  have be0 := Below.refl w.heap.size w
  go_wp2_with fail
  refine (toInt64S_any A0 c0 xs0 w.heap.size _ (by omega) (I0.below be0) be0.size).mono ?_
  rintro e w1 ⟨rfl, ho1, hb1⟩
  have be1 := be0.trans (hb1.mono be0.size)
  go_wp2_with fail
  refine (HottestJunction_s _ _ xs0 _ (by omega) (ho1).ints T0).mono ?_
  rintro e w2 ⟨rfl, hb2⟩
  have be2 := be1.trans (hb2.mono be1.size)
  go_wp2_with fail
  refine (toInt64S_any A0 c0 xs0 w.heap.size _ (by omega) (I0.below be2) be2.size).mono ?_
  rintro e w3 ⟨rfl, ho3, hb3⟩
  have be3 := be2.trans (hb3.mono be2.size)
  go_wp2_with fail
  refine (HottestJunction_i _ _ xs0 _ (by omega) (ho3).ints T0).mono ?_
  rintro e w4 ⟨rfl, hb4⟩
  have be4 := be3.trans (hb4.mono be3.size)
  go_wp2_with fail
  refine (toInt64S_any A0 c0 xs0 w.heap.size _ (by omega) (I0.below be4) be4.size).mono ?_
  rintro e w5 ⟨rfl, ho5, hb5⟩
  have be5 := be4.trans (hb5.mono be4.size)
  go_wp2_with fail
  refine (dB (eqInt64S_yes _ _ _ _ xs0 _ _ _ (by omega) (ho3|>.later hb4 |>.later hb5 ).ints (ho5).ints)).mono ?_
  rintro e w6 ⟨rfl, hb6⟩
  have be6 := be5.trans (hb6.mono be5.size)
  go_wp2_with fail
  go_ret
  exact ⟨rfl, be6⟩
end Go.Proofs.Ytnjplfcmojeedaa
