/- Dust along airways in turn: the program's and the reference's; and the walk of the law. Conditions: the bounds that each theorem names. -/
import Derived.Test.YtiiidloobfimcaaBase
import Derived.Test.YtiiidloobfimcaaList
import Derived.Test.YtiiidloobfimcaaHof
import Derived.Test.YtiiidloobfimcaaRes
import Derived.Test.YtiiidloobfimcaaPair
import Derived.Test.YtiiidloobfimcaaSteps
import Derived.Test.YtiiidloobfimcaaQuiet
import Derived.IntWalk
import Derived.BigQuiet
namespace Go.Proofs.Ytiiidloobfimcaa
open Go.RowKit
open Pl
/-- The dust behind the first k airways; all of them in turn. -/
def alongD (xs ys : List Int) (s : Int) : Nat → Int | 0 => 0 | k + 1 => settleF (mn 1000000 (alongD xs ys s k + ys.getD k 0)) s (xs.getD k 0).toNat
def alongN (xs ys : List Int) (s : Int) : Nat → List Int | 0 => [] | k + 1 => alongN xs ys s k ++ [alongD xs ys s (k + 1)]
theorem alongN_len (xs ys : List Int) (s : Int) : ∀ k, (alongN xs ys s k).length = k
  | 0 => rfl
  | k + 1 => by unfold alongN; rw [List.length_append, alongN_len xs ys s k]; rfl
theorem alongD_bd {xs ys : List Int} {s : Int} (h2 : ∀ y ∈ ys, 0 ≤ y ∧ y ≤ 1000000) (hs1 : 0 ≤ s) (hs2 : s ≤ 1000000) : ∀ k, k ≤ ys.length → 0 ≤ alongD xs ys s k ∧ alongD xs ys s k ≤ 1000000
  | 0, _ => by simp [alongD]
  | k + 1, hk => by
    obtain ⟨a, b⟩ := alongD_bd (xs := xs) h2 hs1 hs2 k (by omega)
    have c := h2 _ (List.getElem_mem (l := ys) (n := k) (by omega))
    rw [← getD_pr] at c
    unfold alongD
    have m1 : 0 ≤ mn 1000000 (alongD xs ys s k + ys.getD k 0) := by rcases mn_or 1000000 (alongD xs ys s k + ys.getD k 0) with e | e <;> omega
    have m2 := mn_le_left 1000000 (alongD xs ys s k + ys.getD k 0)
    exact settle_bd m1 m2 hs1 hs2 _
def alongF (xs ys : List Int) (s : Int) : List Int × Int := if xs.length ≤ 24 ∧ ys.length = xs.length ∧ (allIn xs 0 10000 && allIn ys 0 1000000) = true ∧ inB s 0 1000000 = true then (alongN xs ys s xs.length, 0) else ([], 2)
theorem alongF_len (xs ys : List Int) (s : Int) (hn : (xs.length : Int) ≤ 1048576) (_ : (ys.length : Int) ≤ 1048576) (_ : -9223372036854775808 ≤ s ∧ s ≤ 9223372036854775807) : (alongF xs ys s).1.length ≤ 1048576 := by
  unfold alongF
  split
  · show (alongN xs ys s xs.length).length ≤ _; rw [alongN_len]; omega
  · simp
set_option maxRecDepth 100000 in
theorem DustAlong_i (A : Option Addr) (c : Nat) (xs : List Int) (A' : Option Addr) (c' : Nat) (ys : List Int) (s : Int) (w : World) (hn : (xs.length : Int) ≤ 1048576) (hI : Ints w.heap.size w A xs) (hT : Fits xs) (_ : (ys.length : Int) ≤ 1048576) (hI' : Ints w.heap.size w A' ys) (hT' : Fits ys) (_ : -9223372036854775808 ≤ s ∧ s ≤ 9223372036854775807) :
    Calls Try.prog 49 #[.slice A xs.length c, .slice A' ys.length c', .int .i64 s] w fun e w' => ∃ v, e = .returned (.tuple #[v, .int .i64 (alongF xs ys s).2]) ∧ Own w.heap.size w' v (alongF xs ys s).1 ∧ Below w.heap.size w w' := by
  have HN := Lib.hid (Own.nil_ w.heap.size)
  have J := Lib.hid hI
  have J' := Lib.hid hI'
  unfold alongF
  by_cases h24 : xs.length ≤ 24
  · by_cases hl : ys.length = xs.length
    · obtain ⟨n, hxn⟩ : ∃ n, xs.length = n := ⟨_, rfl⟩
      have hyn : ys.length = n := by omega
      have hn24 : (n : Int) ≤ 24 := by omega
      have W1 := fun (W : World) (hb : Below w.heap.size w W) => allWithin_any A c xs 0 10000 w.heap.size W (by omega) (hI.below hb) hb.size hT
      have W2 := fun (W : World) (hb : Below w.heap.size w W) => allWithin_any A' c' ys 0 1000000 w.heap.size W (by omega) (hI'.below hb) hb.size hT'
      rw [hxn] at W1
      rw [hyn] at W2
      cases h1 : allIn xs 0 10000
      · rw [h1] at W1
        have W1 := Lib.hid W1
        rw [if_neg (by simp), hxn, hyn]
        clear hI hI' hT hT' hxn hyn hl h24 W2 hn
        go_enter Try.func49, Try.ntmps49
        go_wp2_with fail
        refine (W1.out _ (Below.refl _ _)).mono ?_
        rintro e w1 ⟨rfl, hb1⟩
        go_wp2
        go_ret2
        exact ⟨_, rfl, HN.out w1, hb1⟩
      · rw [h1] at W1
        cases h2 : allIn ys 0 1000000
        · rw [h2] at W2
          have W1 := Lib.hid W1
          have W2 := Lib.hid W2
          rw [if_neg (by simp), hxn, hyn]
          clear hI hI' hT hT' hxn hyn hl h24 hn
          go_enter Try.func49, Try.ntmps49
          go_wp2_with fail
          refine (W1.out _ (Below.refl _ _)).mono ?_
          rintro e w1 ⟨rfl, hb1⟩
          go_wp2_with fail
          refine (W2.out _ hb1).mono ?_
          rintro e w2 ⟨rfl, hb2⟩
          go_wp2
          go_ret2
          exact ⟨_, rfl, HN.out w2, hb1.trans (hb2.mono hb1.size)⟩
        · rw [h2] at W2
          have W1 := Lib.hid W1
          have W2 := Lib.hid W2
          cases h3 : inB s 0 1000000
          · rw [if_neg (by simp), hxn, hyn]
            clear hI hI' hT hT' hxn hyn hl h24 hn
            go_enter Try.func49, Try.ntmps49
            go_wp2_with fail
            refine (W1.out _ (Below.refl _ _)).mono ?_
            rintro e w1 ⟨rfl, hb1⟩
            go_wp2_with fail
            refine (W2.out _ hb1).mono ?_
            rintro e w2 ⟨rfl, hb2⟩
            go_wp2_with (go_at_call 60; refine (within_any _ _ _ _).mono ?_; rintro e w' ⟨rfl, rfl⟩)
            go_ret2
            exact ⟨_, rfl, HN.out w2, hb1.trans (hb2.mono hb1.size)⟩
          · obtain ⟨s1, s2⟩ := inB_iff.1 h3
            rw [if_pos ⟨h24, hl, rfl, rfl⟩, hxn, hyn]
            obtain ⟨i0, hi, hz0, hz1, hz2⟩ := info_parts infoI
            have HF := Lib.hid (And.intro hi (And.intro hz0 (And.intro hz1 hz2)))
            have HX := Lib.hid hxn
            have HY := Lib.hid hyn
            have HD := Lib.hid (fun k (hk : k ≤ n) => alongD_bd (xs := xs) (allIn_iff.1 h2) s1 s2 k (by omega))
            have H1 := Lib.hid (allIn_iff.1 h1)
            have H2 := Lib.hid (allIn_iff.1 h2)
            clear hI hI' hT hT' hxn hyn hl h24 hn hi hz0 hz1 hz2 h1 h2
            go_enter Try.func49, Try.ntmps49
            go_wp2_with fail
            refine (W1.out _ (Below.refl _ _)).mono ?_
            rintro e w1 ⟨rfl, hb1⟩
            go_wp2_with fail
            refine (W2.out _ hb1).mono ?_
            rintro e w2 ⟨rfl, hb2⟩
            have hb12 := hb1.trans (hb2.mono hb1.size)
            go_wp2_with (go_at_call 60; refine (within_any _ _ _ _).mono ?_; rintro e w' ⟨rfl, rfl⟩)
            go_loopw [8, 9, 39] (fun v d i wr => ∃ k : Nat, k ≤ n ∧ i = .int .i64 k ∧ d = .int .i64 (alongD xs ys s k) ∧ Below w.heap.size w wr ∧ Own w.heap.size wr v (alongN xs ys s k)) (fun _ _ i _ => n - (intOf i).toNat)
            case atStart => exact ⟨0, Nat.zero_le _, rfl, rfl, hb12, HN.out w2⟩
            case round =>
              obtain ⟨k, hk, rfl, rfl, hb, ho⟩ := hrel
              by_cases hlt : k < n
              · obtain ⟨ad, rfl, _, hc1⟩ := (J.out.below hb).at_ (k := k) (by rw [HX.out]; exact hlt)
                obtain ⟨ad', rfl, _, hc2⟩ := (J'.out.below hb).at_ (k := k) (by rw [HY.out]; exact hlt)
                obtain ⟨x1, x2⟩ := H1.out _ (List.getElem_mem (l := xs) (n := k) (by rw [HX.out]; exact hlt))
                obtain ⟨y1, y2⟩ := H2.out _ (List.getElem_mem (l := ys) (n := k) (by rw [HY.out]; exact hlt))
                rw [← getD_pr] at hc1 hc2 x1 x2 y1 y2
                obtain ⟨d1, d2⟩ := HD.out k hk
                have hlen := alongN_len xs ys s k
                have hsz := hb.size
                have hs : alongD xs ys s (k + 1) = settleF (mn 1000000 (alongD xs ys s k + ys.getD k 0)) s (xs.getD k 0).toNat := rfl
                have hs2 : alongN xs ys s (k + 1) = alongN xs ys s k ++ [alongD xs ys s (k + 1)] := rfl
                obtain ⟨T, hTx⟩ := Int.eq_ofNat_of_zero_le x1
                rw [hTx] at hs hc1
                rw [show ((T : Int)).toNat = T from Int.toNat_natCast T] at hs
                have hT9 : T ≤ 1000000 := by omega
                have m1 : 0 ≤ mn 1000000 (alongD xs ys s k + ys.getD k 0) := by rcases mn_or 1000000 (alongD xs ys s k + ys.getD k 0) with e | e <;> omega
                have m2 := mn_le_left 1000000 (alongD xs ys s k + ys.getD k 0)
                have HC := fun W => settledAfter_any (mn 1000000 (alongD xs ys s k + ys.getD k 0)) s T W m1 m2 s1 s2 hT9
                rw [← hs] at HC
                have HS := Lib.hid hs2
                have HL := Lib.hid hlen
                have HO := Lib.hid ho
                clear hs hs2 ho hTx x1 x2 m1 m2
                have hlen2 : (alongN xs ys s k).length ≤ 24 := by rw [HL.out]; omega
                clear hlen
                generalize hz : alongD xs ys s (k + 1) = z at *
                have HZ := Lib.hid hz
                clear hz
                generalize alongD xs ys s k = d at *
                generalize ys.getD k 0 = y at *
                by_cases hm : d + y ≤ 1000000
                · rw [mn_eq_right hm] at HC
                  have HC := Lib.hid HC
                  go_wp2_with fail
                  refine (HC.out _).mono ?_
                  rintro e wq ⟨rfl, nn, hq⟩
                  have hb2 := below_drewN hb nn
                  have HO2 := Lib.hid (HO.out.later (below_drewN (Below.refl _ _) nn))
                  rw [hq] at hb2 HO2
                  have hsz2 := hb2.size
                  clear hq
                  go_wp2_with (at_builtin; refine wpList_append_own_at _ rfl _ _ 32 rfl w.heap.size 2 i0 (.int .i64 0) 1 8 Try.underlying32 HF.out.1 HF.out.2.1 HF.out.2.2.1 HF.out.2.2.2 rfl (by decide) _ _ _ rfl (HO2.out.later ((Below.refl _ _).alloc (Nat.le_refl _) _)) ⟨wq.heap.size, 0, none⟩ 1 1 [.int .i64 (z)] rfl rfl (cell_one_new _ _ _) (by intro u hu; simp at hu; subst hu; rfl) (le_max (by omega)) (by omega) (by simp; omega) ?_; intro av aw ah ag an aa)
                  go_roundw
                  case rel => exact ⟨k + 1, by omega, by go_num, by rw [HZ.out], Below.appended hb2 HO2.out hsz2 ag, by rw [HS.out]; exact Own.appended ah⟩
                  case measure => simp [intOf]; omega
                · rw [mn_eq_left (by omega)] at HC
                  have HC := Lib.hid HC
                  go_wp2_with fail
                  refine (HC.out _).mono ?_
                  rintro e wq ⟨rfl, nn, hq⟩
                  have hb2 := below_drewN hb nn
                  have HO2 := Lib.hid (HO.out.later (below_drewN (Below.refl _ _) nn))
                  rw [hq] at hb2 HO2
                  have hsz2 := hb2.size
                  clear hq
                  go_wp2_with (at_builtin; refine wpList_append_own_at _ rfl _ _ 32 rfl w.heap.size 2 i0 (.int .i64 0) 1 8 Try.underlying32 HF.out.1 HF.out.2.1 HF.out.2.2.1 HF.out.2.2.2 rfl (by decide) _ _ _ rfl (HO2.out.later ((Below.refl _ _).alloc (Nat.le_refl _) _)) ⟨wq.heap.size, 0, none⟩ 1 1 [.int .i64 (z)] rfl rfl (cell_one_new _ _ _) (by intro u hu; simp at hu; subst hu; rfl) (le_max (by omega)) (by omega) (by simp; omega) ?_; intro av aw ah ag an aa)
                  go_roundw
                  case rel => exact ⟨k + 1, by omega, by go_num, by rw [HZ.out], Below.appended hb2 HO2.out hsz2 ag, by rw [HS.out]; exact Own.appended ah⟩
                  case measure => simp [intOf]; omega
              · obtain rfl : k = n := by omega
                have HO := Lib.hid ho
                clear ho
                go_wp2
                go_ret2
                exact ⟨_, rfl, HO.out, hb⟩
    · rw [if_neg (fun h => hl h.2.1)]
      have hne : ((ys.length : Int) != (xs.length : Int)) = true := by rw [bne_iff_ne]; omega
      have hi24 : (xs.length : Int) ≤ 24 := by omega
      clear hl h24 hI hI' hT hT'
      go_enter Try.func49, Try.ntmps49
      go_wp2
      go_ret2
      exact ⟨_, rfl, HN.out w, Below.refl _ _⟩
  · rw [if_neg (fun h => h24 h.1)]
    have hi24 : (24 : Int) < (xs.length : Int) := by omega
    clear h24 hI hI' hT hT'
    go_enter Try.func49, Try.ntmps49
    go_wp2
    go_ret2
    exact ⟨_, rfl, HN.out w, Below.refl _ _⟩
set_option maxRecDepth 100000 in
theorem DustAlong_s (A : Option Addr) (c : Nat) (xs : List Int) (A' : Option Addr) (c' : Nat) (ys : List Int) (s : Int) (w : World) (hn : (xs.length : Int) ≤ 1048576) (hI : Ints w.heap.size w A xs) (_ : Fits xs) (_ : (ys.length : Int) ≤ 1048576) (hI' : Ints w.heap.size w A' ys) (_ : Fits ys) (_ : -9223372036854775808 ≤ s ∧ s ≤ 9223372036854775807) :
    Calls Try.prog 48 #[.slice A xs.length c, .slice A' ys.length c', .int .i64 s] w fun e w' => ∃ v, e = .returned (.tuple #[v, .int .i64 (alongF xs ys s).2]) ∧ Own w.heap.size w' v (alongF xs ys s).1 ∧ Below w.heap.size w w' := by
  have HN := Lib.hid (Own.nil_ w.heap.size)
  have J := Lib.hid hI
  have J' := Lib.hid hI'
  clear hI hI'
  unfold alongF
  by_cases h24 : xs.length ≤ 24
  · by_cases hl : ys.length = xs.length
    · obtain ⟨n, hxn⟩ : ∃ n, xs.length = n := ⟨_, rfl⟩
      have hyn : ys.length = n := by omega
      have hn24 : (n : Int) ≤ 24 := by omega
      have HX := Lib.hid hxn
      have HY := Lib.hid hyn
      cases h3 : inB s 0 1000000
      · rw [if_neg (by simp), hxn, hyn]
        clear hxn hyn hl h24 hn
        go_enter Try.func48, Try.ntmps48
        go_wp2_with (first | (go_at_call 56; refine (l00In_any _ _ _ _).mono ?_; rintro e w' ⟨rfl, rfl⟩) | (go_at_call 96; refine (l14Dust_any _ _).mono ?_; rintro e w' ⟨rfl, rfl⟩) | (go_at_call 95; refine (l14Settling_any _ _).mono ?_; rintro e w' ⟨rfl, rfl⟩))
        go_ret2
        exact ⟨_, rfl, HN.out w, Below.refl _ _⟩
      · obtain ⟨s1, s2⟩ := inB_iff.1 h3
        rcases pair_split xs ys n hxn hyn 0 10000 0 1000000 with ⟨h, g⟩ | ⟨h, m, hm, hbad, g⟩
        · obtain ⟨h1, h2⟩ : allIn xs 0 10000 = true ∧ allIn ys 0 1000000 = true := by simpa using h
          rw [if_pos ⟨h24, hl, h, rfl⟩, hxn, hyn]
          obtain ⟨i0, hi, hz0, hz1, hz2⟩ := info_parts infoI
          have HF := Lib.hid (And.intro hi (And.intro hz0 (And.intro hz1 hz2)))
          have HD := Lib.hid (fun k (hk : k ≤ n) => alongD_bd (xs := xs) (allIn_iff.1 h2) s1 s2 k (by omega))
          have H1 := Lib.hid (allIn_iff.1 h1)
          have H2 := Lib.hid (allIn_iff.1 h2)
          have G := Lib.hid g
          clear hxn hyn hl h24 hn hi hz0 hz1 hz2 h1 h2 h g
          go_enter Try.func48, Try.ntmps48
          go_wp2_with (first | (go_at_call 56; refine (l00In_any _ _ _ _).mono ?_; rintro e w' ⟨rfl, rfl⟩) | (go_at_call 96; refine (l14Dust_any _ _).mono ?_; rintro e w' ⟨rfl, rfl⟩) | (go_at_call 95; refine (l14Settling_any _ _).mono ?_; rintro e w' ⟨rfl, rfl⟩))
          go_loop [8] (fun i => ∃ k : Nat, k ≤ n ∧ i = .int .i64 k) (fun i => n - (intOf i).toNat)
          case atStart => exact ⟨0, Nat.zero_le _, rfl⟩
          case round =>
            obtain ⟨k, hk, rfl⟩ := hrel
            by_cases hlt : k < n
            · obtain ⟨ad, rfl, _, hc1⟩ := J.out.at_ (k := k) (by rw [HX.out]; exact hlt)
              obtain ⟨ad', rfl, _, hc2⟩ := J'.out.at_ (k := k) (by rw [HY.out]; exact hlt)
              rw [← getD_pr] at hc1 hc2
              obtain ⟨g1, g2⟩ := G.out k hlt
              generalize xs.getD k 0 = x at *
              generalize ys.getD k 0 = y at *
              go_wp2_with (first | (go_at_call 56; refine (l00In_any _ _ _ _).mono ?_; rintro e w' ⟨rfl, rfl⟩) | (go_at_call 96; refine (l14Dust_any _ _).mono ?_; rintro e w' ⟨rfl, rfl⟩) | (go_at_call 95; refine (l14Settling_any _ _).mono ?_; rintro e w' ⟨rfl, rfl⟩))
              go_round
              case rel => exact ⟨k + 1, by omega, by go_num⟩
              case measure => simp [intOf]; omega
            · obtain rfl : k = n := by omega
              go_wp2
              go_loopw [9, 10, 11] (fun v d i wr => ∃ j : Nat, j ≤ k ∧ i = .int .i64 j ∧ d = .int .i64 (alongD xs ys s j) ∧ Below w.heap.size w wr ∧ Own w.heap.size wr v (alongN xs ys s j)) (fun _ _ i _ => k - (intOf i).toNat)
              case atStart => exact ⟨0, Nat.zero_le _, rfl, rfl, (Below.refl _ _).alloc (Nat.le_refl _) _, Own.empty (Nat.le_refl _)⟩
              case round =>
                obtain ⟨j, hj, rfl, rfl, hb, ho⟩ := hrel
                by_cases hjk : j < k
                · obtain ⟨ad, rfl, _, hc1⟩ := (J.out.below hb).at_ (k := j) (by rw [HX.out]; exact hjk)
                  obtain ⟨ad', rfl, _, hc2⟩ := (J'.out.below hb).at_ (k := j) (by rw [HY.out]; exact hjk)
                  obtain ⟨x1, x2⟩ := H1.out _ (List.getElem_mem (l := xs) (n := j) (by rw [HX.out]; exact hjk))
                  obtain ⟨y1, y2⟩ := H2.out _ (List.getElem_mem (l := ys) (n := j) (by rw [HY.out]; exact hjk))
                  rw [← getD_pr] at hc1 hc2 x1 x2 y1 y2
                  obtain ⟨d1, d2⟩ := HD.out j hj
                  have hlen := alongN_len xs ys s j
                  have hsz := hb.size
                  have hs : alongD xs ys s (j + 1) = settleF (mn 1000000 (alongD xs ys s j + ys.getD j 0)) s (xs.getD j 0).toNat := rfl
                  have hs2 : alongN xs ys s (j + 1) = alongN xs ys s j ++ [alongD xs ys s (j + 1)] := rfl
                  obtain ⟨T, hTx⟩ := Int.eq_ofNat_of_zero_le x1
                  rw [hTx] at hs hc1
                  rw [show ((T : Int)).toNat = T from Int.toNat_natCast T] at hs
                  have hT9 : T ≤ 1000000 := by omega
                  have m1 : 0 ≤ mn 1000000 (alongD xs ys s j + ys.getD j 0) := by rcases mn_or 1000000 (alongD xs ys s j + ys.getD j 0) with e | e <;> omega
                  have m2 := mn_le_left 1000000 (alongD xs ys s j + ys.getD j 0)
                  have HC := fun W => l14Settled_any (mn 1000000 (alongD xs ys s j + ys.getD j 0)) s T W m1 m2 s1 s2 hT9
                  rw [← hs] at HC
                  have HM := fun W => l00Min_any 1000000 (alongD xs ys s j + ys.getD j 0) W
                  have hw : IntKind.i64.wrap (alongD xs ys s j + ys.getD j 0) = alongD xs ys s j + ys.getD j 0 := IntWalk.i64_in _ (by omega)
                  have HS := Lib.hid hs2
                  have HL := Lib.hid hlen
                  have HO := Lib.hid ho
                  have HC := Lib.hid HC
                  have HM := Lib.hid HM
                  clear hs hs2 ho hTx x1 x2 m1 m2
                  have hlen2 : (alongN xs ys s j).length ≤ 24 := by rw [HL.out]; omega
                  have j0 : (0 : Int) ≤ j := by omega
                  have j1 : (j : Int) < k := by omega
                  clear hlen
                  generalize hz : alongD xs ys s (j + 1) = z at *
                  have HZ := Lib.hid hz
                  clear hz
                  generalize alongD xs ys s j = d at *
                  generalize ys.getD j 0 = y at *
                  go_wp2_with fail
                  go_quiet (first | (go_at_call 98; first | exact quiet_s (HM.out _) | exact quiet_s2 (HM.out _)) | (go_at_call 97; first | exact quiet_s (HC.out _) | exact quiet_s2 (HC.out _)))
                  clear hw
                  have hb2 := below_drewN hb nq
                  have HO2 := Lib.hid (HO.out.later (below_drewN (Below.refl _ _) nq))
                  generalize wr.drewN nq = wd at *
                  have hsz2 := hb2.size
                  go_wp2_with (at_builtin; refine wpList_append_own_at _ rfl _ _ 32 rfl w.heap.size 2 i0 (.int .i64 0) 1 8 Try.underlying32 HF.out.1 HF.out.2.1 HF.out.2.2.1 HF.out.2.2.2 rfl (by decide) _ _ _ rfl (HO2.out.later ((Below.refl _ _).alloc (Nat.le_refl _) _)) ⟨wd.heap.size, 0, none⟩ 1 1 [.int .i64 (z)] rfl rfl (cell_one_new _ _ _) (by intro u hu; simp at hu; subst hu; rfl) (le_max (by omega)) (by omega) (by simp; omega) ?_; intro av aw ah ag an aa)
                  go_roundw
                  case rel => exact ⟨j + 1, by omega, by go_num, by rw [HZ.out], Below.appended hb2 HO2.out hsz2 ag, by rw [HS.out]; exact Own.appended ah⟩
                  case measure => simp [intOf]; omega
                · obtain rfl : j = k := by omega
                  have HO := Lib.hid ho
                  clear ho
                  go_wp2
                  go_ret2
                  exact ⟨_, rfl, HO.out, hb⟩
        · rw [if_neg (fun q => by rw [h] at q; exact absurd q.2.2.1 (by simp)), hxn, hyn]
          have G := Lib.hid g
          have HB := Lib.hid hbad
          clear hxn hyn hl h24 hn h g hbad
          go_enter Try.func48, Try.ntmps48
          go_wp2_with (first | (go_at_call 56; refine (l00In_any _ _ _ _).mono ?_; rintro e w' ⟨rfl, rfl⟩) | (go_at_call 96; refine (l14Dust_any _ _).mono ?_; rintro e w' ⟨rfl, rfl⟩) | (go_at_call 95; refine (l14Settling_any _ _).mono ?_; rintro e w' ⟨rfl, rfl⟩))
          go_loop [8] (fun i => ∃ k : Nat, k ≤ m ∧ i = .int .i64 k) (fun i => n - (intOf i).toNat)
          case atStart => exact ⟨0, Nat.zero_le _, rfl⟩
          case round =>
            obtain ⟨k, hk, rfl⟩ := hrel
            have hkn : k < n := by omega
            obtain ⟨ad, rfl, _, hc1⟩ := J.out.at_ (k := k) (by rw [HX.out]; exact hkn)
            obtain ⟨ad', rfl, _, hc2⟩ := J'.out.at_ (k := k) (by rw [HY.out]; exact hkn)
            rw [← getD_pr] at hc1 hc2
            by_cases hlt : k < m
            · obtain ⟨g1, g2⟩ := G.out k hlt
              generalize xs.getD k 0 = x at *
              generalize ys.getD k 0 = y at *
              go_wp2_with (first | (go_at_call 56; refine (l00In_any _ _ _ _).mono ?_; rintro e w' ⟨rfl, rfl⟩) | (go_at_call 96; refine (l14Dust_any _ _).mono ?_; rintro e w' ⟨rfl, rfl⟩) | (go_at_call 95; refine (l14Settling_any _ _).mono ?_; rintro e w' ⟨rfl, rfl⟩))
              go_round
              case rel => exact ⟨k + 1, by omega, by go_num⟩
              case measure => simp [intOf]; omega
            · obtain rfl : m = k := by omega
              rcases HB.out with h2 | ⟨h2, h4⟩
              · generalize xs.getD m 0 = x at *
                generalize ys.getD m 0 = y at *
                go_wp2_with (first | (go_at_call 56; refine (l00In_any _ _ _ _).mono ?_; rintro e w' ⟨rfl, rfl⟩) | (go_at_call 96; refine (l14Dust_any _ _).mono ?_; rintro e w' ⟨rfl, rfl⟩) | (go_at_call 95; refine (l14Settling_any _ _).mono ?_; rintro e w' ⟨rfl, rfl⟩))
                go_ret2
                exact ⟨_, rfl, HN.out w, Below.refl _ _⟩
              · generalize xs.getD m 0 = x at *
                generalize ys.getD m 0 = y at *
                go_wp2_with (first | (go_at_call 56; refine (l00In_any _ _ _ _).mono ?_; rintro e w' ⟨rfl, rfl⟩) | (go_at_call 96; refine (l14Dust_any _ _).mono ?_; rintro e w' ⟨rfl, rfl⟩) | (go_at_call 95; refine (l14Settling_any _ _).mono ?_; rintro e w' ⟨rfl, rfl⟩))
                go_ret2
                exact ⟨_, rfl, HN.out w, Below.refl _ _⟩
    · rw [if_neg (fun h => hl h.2.1)]
      have hne : ((ys.length : Int) != (xs.length : Int)) = true := by rw [bne_iff_ne]; omega
      have hi24 : (xs.length : Int) ≤ 24 := by omega
      clear hl h24
      go_enter Try.func48, Try.ntmps48
      go_wp2
      go_ret2
      exact ⟨_, rfl, HN.out w, Below.refl _ _⟩
  · rw [if_neg (fun h => h24 h.1)]
    have hi24 : (24 : Int) < (xs.length : Int) := by omega
    clear h24
    go_enter Try.func48, Try.ntmps48
    go_wp2
    go_ret2
    exact ⟨_, rfl, HN.out w, Below.refl _ _⟩
theorem fnExactDustAlong_walk {w : World} (A0 : Option Addr) (c0 : Nat) (xs0 : List Int) (I0 : Ints w.heap.size w A0 xs0) (T0 : Fits xs0) (_ : xs0.length ≤ maxLen) (A1 : Option Addr) (c1 : Nat) (xs1 : List Int) (I1 : Ints w.heap.size w A1 xs1) (T1 : Fits xs1) (_ : xs1.length ≤ maxLen) (a2 : Int) (b2 : -9223372036854775808 ≤ a2 ∧ a2 ≤ 9223372036854775807) :
    Calls Try.prog 14 #[.slice A0 xs0.length c0, .slice A1 xs1.length c1, .int .i64 a2] w fun e w' => e = .returned (.bool true) ∧ Below w.heap.size w w' := by
  by_cases hn0 : (xs0.length : Int) ≤ 1048576
  rotate_left
  · go_enter Try.func14, Try.ntmps14
    go_wp2
    go_ret
    exact ⟨rfl, Below.refl _ _⟩
  by_cases hn1 : (xs1.length : Int) ≤ 1048576
  rotate_left
  · go_enter Try.func14, Try.ntmps14
    go_wp2
    go_ret
    exact ⟨rfl, Below.refl _ _⟩
  have hR : (alongF xs0 xs1 a2).1.length ≤ 1048576 := alongF_len xs0 xs1 a2 hn0 hn1 b2
  have be0 := Below.refl w.heap.size w
  have HT0 := Lib.hid T0
  have HI0 := Lib.hid I0
  have HT1 := Lib.hid T1
  have HI1 := Lib.hid I1
  clear T0 I0 T1 I1
  go_enter Try.func14, Try.ntmps14
  go_wp2_with fail
  refine (toInt64S_any A0 c0 xs0 w.heap.size _ (by omega) (HI0.out.below be0) be0.size).mono ?_
  rintro e w1 ⟨rfl, ho1, hb1⟩
  have sz1 : w.heap.size ≤ w1.heap.size := hb1.size
  have be1 := be0.trans (hb1.mono be0.size)
  have ko1 := Lib.hid ho1
  clear ho1
  have kb1 := Lib.hid hb1
  clear hb1
  go_wp2_with fail
  refine (toInt64S_any A1 c1 xs1 w.heap.size _ (by omega) (HI1.out.below be1) be1.size).mono ?_
  rintro e w2 ⟨rfl, ho2, hb2⟩
  have sz2 : w1.heap.size ≤ w2.heap.size := hb2.size
  have be2 := be1.trans (hb2.mono be1.size)
  have ko2 := Lib.hid ho2
  clear ho2
  have kb2 := Lib.hid hb2
  clear hb2
  go_wp2_with fail
  refine (DustAlong_s _ _ xs0 _ _ xs1 a2 _ hn0 ((ko1.out).later kb2.out).ints HT0.out hn1 (ko2.out).ints HT1.out b2).mono ?_
  rintro e w3 ⟨v3, rfl, ho3, hb3⟩
  obtain ⟨A_3, c_3, rfl, -, -⟩ := ho3.slice
  have sz3 : w2.heap.size ≤ w3.heap.size := hb3.size
  have be3 := be2.trans (hb3.mono be2.size)
  have ko3 := Lib.hid ho3
  clear ho3
  have kb3 := Lib.hid hb3
  clear hb3
  go_wp2_with fail
  refine (toInt64S_any A0 c0 xs0 w.heap.size _ (by omega) (HI0.out.below be3) be3.size).mono ?_
  rintro e w4 ⟨rfl, ho4, hb4⟩
  have sz4 : w3.heap.size ≤ w4.heap.size := hb4.size
  have be4 := be3.trans (hb4.mono be3.size)
  have ko4 := Lib.hid ho4
  clear ho4
  have kb4 := Lib.hid hb4
  clear hb4
  go_wp2_with fail
  refine (toInt64S_any A1 c1 xs1 w.heap.size _ (by omega) (HI1.out.below be4) be4.size).mono ?_
  rintro e w5 ⟨rfl, ho5, hb5⟩
  have sz5 : w4.heap.size ≤ w5.heap.size := hb5.size
  have be5 := be4.trans (hb5.mono be4.size)
  have ko5 := Lib.hid ho5
  clear ho5
  have kb5 := Lib.hid hb5
  clear hb5
  go_wp2_with fail
  refine (DustAlong_i _ _ xs0 _ _ xs1 a2 _ hn0 ((ko4.out).later kb5.out).ints HT0.out hn1 (ko5.out).ints HT1.out b2).mono ?_
  rintro e w6 ⟨v6, rfl, ho6, hb6⟩
  obtain ⟨A_6, c_6, rfl, -, -⟩ := ho6.slice
  have sz6 : w5.heap.size ≤ w6.heap.size := hb6.size
  have be6 := be5.trans (hb6.mono be5.size)
  have ko6 := Lib.hid ho6
  clear ho6
  have kb6 := Lib.hid hb6
  clear hb6
  go_wp2_with fail
  refine (dB (eqInt64S_yes _ _ _ _ (alongF xs0 xs1 a2).1 _ _ _ (by omega) (ko6.out).ints ((((ko3.out).later kb4.out).later kb5.out).later kb6.out).ints)).mono ?_
  rintro e w7 ⟨rfl, hb7⟩
  have sz7 : w6.heap.size ≤ w7.heap.size := hb7.size
  have be7 := be6.trans (hb7.mono be6.size)
  have kb7 := Lib.hid hb7
  clear hb7
  go_wp2_with fail
  refine (toInt64S_any A0 c0 xs0 w.heap.size _ (by omega) (HI0.out.below be7) be7.size).mono ?_
  rintro e w8 ⟨rfl, ho8, hb8⟩
  have sz8 : w7.heap.size ≤ w8.heap.size := hb8.size
  have be8 := be7.trans (hb8.mono be7.size)
  have ko8 := Lib.hid ho8
  clear ho8
  have kb8 := Lib.hid hb8
  clear hb8
  go_wp2_with fail
  refine (dB (eqInt64S_yes _ _ _ _ xs0 _ _ _ (by omega) (((((ko4.out).later kb5.out).later kb6.out).later kb7.out).later kb8.out).ints (ko8.out).ints)).mono ?_
  rintro e w9 ⟨rfl, hb9⟩
  have sz9 : w8.heap.size ≤ w9.heap.size := hb9.size
  have be9 := be8.trans (hb9.mono be8.size)
  have kb9 := Lib.hid hb9
  clear hb9
  go_wp2_with fail
  refine (toInt64S_any A1 c1 xs1 w.heap.size _ (by omega) (HI1.out.below be9) be9.size).mono ?_
  rintro e w10 ⟨rfl, ho10, hb10⟩
  have sz10 : w9.heap.size ≤ w10.heap.size := hb10.size
  have be10 := be9.trans (hb10.mono be9.size)
  have ko10 := Lib.hid ho10
  clear ho10
  have kb10 := Lib.hid hb10
  clear hb10
  go_wp2_with fail
  refine (dB (eqInt64S_yes _ _ _ _ xs1 _ _ _ (by omega) ((((((ko5.out).later kb6.out).later kb7.out).later kb8.out).later kb9.out).later kb10.out).ints (ko10.out).ints)).mono ?_
  rintro e w11 ⟨rfl, hb11⟩
  have sz11 : w10.heap.size ≤ w11.heap.size := hb11.size
  have be11 := be10.trans (hb11.mono be10.size)
  have kb11 := Lib.hid hb11
  clear hb11
  go_wp2_with fail
  refine (markInt64S_own _ _ _ xs0 (1) _ _ (by omega) (by omega) (by omega) rfl ((((((((ko4.out).later kb5.out).later kb6.out).later kb7.out).later kb8.out).later kb9.out).later kb10.out).later kb11.out)).mono ?_
  rintro e w12 ⟨rfl, hp12, hg12⟩
  have sz12 : w11.heap.size ≤ w12.heap.size := hg12.size
  have be12 : Below w.heap.size w w12 := Own.grew be11 ((((((((ko4.out).later kb5.out).later kb6.out).later kb7.out).later kb8.out).later kb9.out).later kb10.out).later kb11.out) (by omega) be11.size hg12
  have kp12 := Lib.hid hp12
  clear hp12
  have kg12 := Lib.hid hg12
  clear hg12
  go_wp2_with fail
  refine (markInt64S_own _ _ _ xs1 (1 + (xs0.length : Int)) _ _ (by omega) (by omega) (by omega) rfl ((((((((ko5.out).later kb6.out).later kb7.out).later kb8.out).later kb9.out).later kb10.out).later kb11.out).kept kg12.out (ko5.out.apart ko4.out (by omega)))).mono ?_
  rintro e w13 ⟨rfl, hp13, hg13⟩
  have sz13 : w12.heap.size ≤ w13.heap.size := hg13.size
  have be13 : Below w.heap.size w w13 := Own.grew be12 ((((((((ko5.out).later kb6.out).later kb7.out).later kb8.out).later kb9.out).later kb10.out).later kb11.out).kept kg12.out (ko5.out.apart ko4.out (by omega))) (by omega) be12.size hg13
  have kp13 := Lib.hid hp13
  clear hp13
  have kg13 := Lib.hid hg13
  clear hg13
  go_wp2_with fail
  refine (dB (eqInt64S_yes _ _ _ _ (alongF xs0 xs1 a2).1 _ _ _ (by omega) ((((((((ko6.out).later kb7.out).later kb8.out).later kb9.out).later kb10.out).later kb11.out).kept kg12.out (ko6.out.apart ko4.out (by omega))).kept kg13.out (ko6.out.apart ko5.out (by omega))).ints (((((((((((ko3.out).later kb4.out).later kb5.out).later kb6.out).later kb7.out).later kb8.out).later kb9.out).later kb10.out).later kb11.out).kept kg12.out (ko3.out.apart ko4.out (by omega))).kept kg13.out (ko3.out.apart ko5.out (by omega))).ints)).mono ?_
  rintro e w14 ⟨rfl, hb14⟩
  have sz14 : w13.heap.size ≤ w14.heap.size := hb14.size
  have be14 := be13.trans (hb14.mono be13.size)
  have kb14 := Lib.hid hb14
  clear hb14
  go_wp2_with fail
  refine (markInt64S_own _ _ _ (alongF xs0 xs1 a2).1 1 _ _ (by omega) (by omega) (by omega) rfl (((((((((ko6.out).later kb7.out).later kb8.out).later kb9.out).later kb10.out).later kb11.out).kept kg12.out (ko6.out.apart ko4.out (by omega))).kept kg13.out (ko6.out.apart ko5.out (by omega))).later kb14.out)).mono ?_
  rintro e w15 ⟨rfl, hp15, hg15⟩
  have sz15 : w14.heap.size ≤ w15.heap.size := hg15.size
  have be15 : Below w.heap.size w w15 := Own.grew be14 (((((((((ko6.out).later kb7.out).later kb8.out).later kb9.out).later kb10.out).later kb11.out).kept kg12.out (ko6.out.apart ko4.out (by omega))).kept kg13.out (ko6.out.apart ko5.out (by omega))).later kb14.out) (by omega) be14.size hg15
  have kp15 := Lib.hid hp15
  clear hp15
  have kg15 := Lib.hid hg15
  clear hg15
  go_wp2_with fail
  refine (sB (heldInt64S_any _ _ (alongF xs0 xs1 a2).1.length 1 _ _ (by omega) (by omega) (by omega) (kp15.out).ints)).mono ?_
  rintro e w16 ⟨rfl, hb16⟩
  have sz16 : w15.heap.size ≤ w16.heap.size := hb16.size
  have be16 := be15.trans (hb16.mono be15.size)
  have kb16 := Lib.hid hb16
  clear hb16
  go_wp2_with fail
  refine (toInt64S_any A0 c0 xs0 w.heap.size _ (by omega) (HI0.out.below be16) be16.size).mono ?_
  rintro e w17 ⟨rfl, ho17, hb17⟩
  have sz17 : w16.heap.size ≤ w17.heap.size := hb17.size
  have be17 := be16.trans (hb17.mono be16.size)
  have ko17 := Lib.hid ho17
  clear ho17
  have kb17 := Lib.hid hb17
  clear hb17
  go_wp2_with fail
  refine (toInt64S_any A1 c1 xs1 w.heap.size _ (by omega) (HI1.out.below be17) be17.size).mono ?_
  rintro e w18 ⟨rfl, ho18, hb18⟩
  have sz18 : w17.heap.size ≤ w18.heap.size := hb18.size
  have be18 := be17.trans (hb18.mono be17.size)
  have ko18 := Lib.hid ho18
  clear ho18
  have kb18 := Lib.hid hb18
  clear hb18
  go_wp2_with fail
  refine (DustAlong_i _ _ xs0 _ _ xs1 a2 _ hn0 ((ko17.out).later kb18.out).ints HT0.out hn1 (ko18.out).ints HT1.out b2).mono ?_
  rintro e w19 ⟨v19, rfl, ho19, hb19⟩
  obtain ⟨A_19, c_19, rfl, -, -⟩ := ho19.slice
  have sz19 : w18.heap.size ≤ w19.heap.size := hb19.size
  have be19 := be18.trans (hb19.mono be18.size)
  have ko19 := Lib.hid ho19
  clear ho19
  have kb19 := Lib.hid hb19
  clear hb19
  go_wp2_with fail
  refine (dB (eqInt64S_yes _ _ _ _ (alongF xs0 xs1 a2).1 _ _ _ (by omega) (ko19.out).ints (((((((((((((((((ko3.out).later kb4.out).later kb5.out).later kb6.out).later kb7.out).later kb8.out).later kb9.out).later kb10.out).later kb11.out).kept kg12.out (ko3.out.apart ko4.out (by omega))).kept kg13.out (ko3.out.apart ko5.out (by omega))).later kb14.out).kept kg15.out (ko3.out.apart ko6.out (by omega))).later kb16.out).later kb17.out).later kb18.out).later kb19.out).ints)).mono ?_
  rintro e w20 ⟨rfl, hb20⟩
  have sz20 : w19.heap.size ≤ w20.heap.size := hb20.size
  have be20 := be19.trans (hb20.mono be19.size)
  have kb20 := Lib.hid hb20
  clear hb20
  go_wp2_with fail
  refine (sB (heldInt64S_any _ _ (alongF xs0 xs1 a2).1.length 1 _ _ (by omega) (by omega) (by omega) ((((((kp15.out).later kb16.out).later kb17.out).later kb18.out).later kb19.out).later kb20.out).ints)).mono ?_
  rintro e w21 ⟨rfl, hb21⟩
  have sz21 : w20.heap.size ≤ w21.heap.size := hb21.size
  have be21 := be20.trans (hb21.mono be20.size)
  have kb21 := Lib.hid hb21
  clear hb21
  go_wp2_with fail
  go_ret
  exact ⟨rfl, be21⟩
end Go.Proofs.Ytiiidloobfimcaa
