/- Sums over lists: the share of mixed flows, by the program and by the reference; and the walk of the law. Conditions: the bounds that each theorem names. -/
import Derived.Test.YtnjplfcmojeedaaBase
import Derived.Test.YtnjplfcmojeedaaList
import Derived.Test.YtnjplfcmojeedaaHof
import Derived.Lib.Hide
namespace Go.Proofs.Ytnjplfcmojeedaa
open Go.RowKit
open Pl

/-- Sums of the first numbers of a list; of products with those of another. -/
def sumN (xs : List Int) : Nat → Int
  | 0 => 0
  | k + 1 => sumN xs k + xs.getD k 0
def dotN (xs ys : List Int) : Nat → Int
  | 0 => 0
  | k + 1 => dotN xs ys k + xs.getD k 0 * ys.getD k 0
theorem getD_eq {xs : List Int} {k : Nat} (h : k < xs.length) : xs.getD k 0 = xs[k] := by simp [List.getD, h]
theorem getD_bd {xs : List Int} {lo hi : Int} (h : ∀ x ∈ xs, lo ≤ x ∧ x ≤ hi) (h0 : lo ≤ 0) (h1 : 0 ≤ hi) (k : Nat) : lo ≤ xs.getD k 0 ∧ xs.getD k 0 ≤ hi := by
  by_cases hk : k < xs.length
  · rw [getD_eq hk]; exact h _ (List.getElem_mem _)
  · rw [List.getD_eq_getElem?_getD, List.getElem?_eq_none (by omega)]; exact ⟨h0, h1⟩
theorem sumN_bd {xs : List Int} {lo hi : Int} (h : ∀ x ∈ xs, lo ≤ x ∧ x ≤ hi) (h0 : lo ≤ 0) (h1 : 0 ≤ hi) : ∀ k : Nat, (k : Int) * lo ≤ sumN xs k ∧ sumN xs k ≤ k * hi
  | 0 => by simp [sumN]
  | k + 1 => by
    obtain ⟨a, b⟩ := sumN_bd h h0 h1 k
    obtain ⟨c, d⟩ := getD_bd h h0 h1 k
    show ((k + 1 : Nat) : Int) * lo ≤ sumN xs k + xs.getD k 0 ∧ sumN xs k + xs.getD k 0 ≤ ((k + 1 : Nat) : Int) * hi
    rw [Int.natCast_succ, Int.add_mul, Int.add_mul, Int.one_mul, Int.one_mul]
    omega
theorem dotN_bd {xs ys : List Int} {X Y : Int} (hx : ∀ x ∈ xs, -X ≤ x ∧ x ≤ X) (hy : ∀ y ∈ ys, -Y ≤ y ∧ y ≤ Y) (h0 : 0 ≤ X) (h1 : 0 ≤ Y) : ∀ k : Nat, -((k : Int) * (X * Y)) ≤ dotN xs ys k ∧ dotN xs ys k ≤ k * (X * Y)
  | 0 => by simp [dotN]
  | k + 1 => by
    obtain ⟨a, b⟩ := dotN_bd hx hy h0 h1 k
    obtain ⟨c, d⟩ := getD_bd hx (by omega) h0 k
    obtain ⟨e, f⟩ := getD_bd hy (by omega) h1 k
    obtain ⟨m1, m2⟩ := mul_abs c d e f
    show -(((k + 1 : Nat) : Int) * (X * Y)) ≤ dotN xs ys k + xs.getD k 0 * ys.getD k 0 ∧ dotN xs ys k + xs.getD k 0 * ys.getD k 0 ≤ ((k + 1 : Nat) : Int) * (X * Y)
    rw [Int.natCast_succ, Int.add_mul, Int.one_mul]
    omega
theorem sumN_nonneg {xs : List Int} (h : ∀ x ∈ xs, 0 ≤ x) : ∀ k, 0 ≤ sumN xs k
  | 0 => Int.le_refl _
  | k + 1 => by
    have a := sumN_nonneg h k
    have b : 0 ≤ xs.getD k 0 := by
      by_cases hk : k < xs.length
      · rw [getD_eq hk]; exact h _ (List.getElem_mem _)
      · rw [List.getD_eq_getElem?_getD, List.getElem?_eq_none (by omega)]; exact Int.le_refl _
    show 0 ≤ sumN xs k + xs.getD k 0
    omega
theorem dotN_nonneg {xs ys : List Int} (h : ∀ x ∈ xs, 0 ≤ x) (h' : ∀ y ∈ ys, 0 ≤ y) : ∀ k, 0 ≤ dotN xs ys k
  | 0 => Int.le_refl _
  | k + 1 => by
    have a := dotN_nonneg h h' k
    have b : ∀ zs : List Int, (∀ z ∈ zs, 0 ≤ z) → 0 ≤ zs.getD k 0 := fun zs hz => by
      by_cases hk : k < zs.length
      · rw [getD_eq hk]; exact hz _ (List.getElem_mem _)
      · rw [List.getD_eq_getElem?_getD, List.getElem?_eq_none (by omega)]; exact Int.le_refl _
    show 0 ≤ dotN xs ys k + xs.getD k 0 * ys.getD k 0
    have := Int.mul_nonneg (b xs h) (b ys h')
    omega

def mixF (xs ys : List Int) : Int := if sumN xs xs.length = 0 then 0 else divU (dotN xs ys xs.length) (sumN xs xs.length)
theorem mixShares_any (A A' : Option Addr) (c c' n : Nat) (xs ys : List Int) (B B' : Nat) (w : World) (hn : n ≤ 64) (hx : xs.length = n) (hy : ys.length = n) (hI : Ints B w A xs) (hI' : Ints B' w A' ys)
    (h1 : ∀ x ∈ xs, 0 ≤ x ∧ x ≤ 100000) (h2 : ∀ y ∈ ys, 0 ≤ y ∧ y ≤ 1000000) :
    Calls Try.prog 97 #[.slice A n c, .slice A' n c'] w fun e w' => e = .returned (.int .i64 (mixF xs ys)) ∧ ∃ n, w.drewN n = w' := by
  have HS := Lib.hid (fun k => And.intro (sumN_bd (fun x hx => ⟨(h1 x hx).1, (h1 x hx).2⟩) (Int.le_refl 0) (by omega) k) (And.intro (dotN_nonneg (fun x hx => (h1 x hx).1) (fun y hy => (h2 y hy).1) k) (dotN_bd (X := 100000) (Y := 1000000) (fun x hx => ⟨by have := h1 x hx; omega, (h1 x hx).2⟩) (fun y hy => ⟨by have := h2 y hy; omega, (h2 y hy).2⟩) (by omega) (by omega) k)))
  have H1 := Lib.hid h1
  have H2 := Lib.hid h2
  have HX := Lib.hid hx
  have HY := Lib.hid hy
  have J := Lib.hid hI
  have J' := Lib.hid hI'
  clear h1 h2 hx hy hI hI'
  go_enter Try.func97, Try.ntmps97
  go_wp2
  go_loop [5, 6, 11] (fun s t i => ∃ k : Nat, k ≤ n ∧ i = .int .i64 k ∧ s = .int .i64 (dotN xs ys k) ∧ t = .int .i64 (sumN xs k)) (fun _ _ i => n - (intOf i).toNat)
  case atStart => exact ⟨0, Nat.zero_le _, rfl, rfl, rfl⟩
  case round =>
    obtain ⟨k, hk, rfl, rfl, rfl⟩ := hrel
    obtain ⟨⟨a1, a2⟩, a3, _, a4⟩ := HS.out k
    by_cases hlt : k < n
    · obtain ⟨ad, rfl, _, hc1⟩ := J.out.at_ (k := k) (by rw [HX.out]; exact hlt)
      obtain ⟨ad', rfl, _, hc2⟩ := J'.out.at_ (k := k) (by rw [HY.out]; exact hlt)
      obtain ⟨x1, x2⟩ := H1.out _ (List.getElem_mem (l := xs) (n := k) (by rw [HX.out]; exact hlt))
      obtain ⟨y1, y2⟩ := H2.out _ (List.getElem_mem (l := ys) (n := k) (by rw [HY.out]; exact hlt))
      have ex : xs.getD k 0 = xs[k]'(by rw [HX.out]; exact hlt) := getD_eq _
      have ey : ys.getD k 0 = ys[k]'(by rw [HY.out]; exact hlt) := getD_eq _
      rw [← ex] at hc1 x1 x2
      rw [← ey] at hc2 y1 y2
      clear ex ey
      have m1 := mul_le x1 x2 y1 y2
      have m2 := mul_ge x1 y1
      generalize hxk : xs.getD k 0 = x at *
      generalize hyk : ys.getD k 0 = y at *
      have HXK := Lib.hid hxk
      have HYK := Lib.hid hyk
      clear hxk hyk
      go_wp2
      go_round
      case rel => exact ⟨k + 1, by omega, by go_num, by rw [show dotN xs ys (k + 1) = dotN xs ys k + xs.getD k 0 * ys.getD k 0 from rfl, HXK.out, HYK.out], by rw [show sumN xs (k + 1) = sumN xs k + xs.getD k 0 from rfl, HXK.out]⟩
      case measure => simp [intOf]; omega
    · obtain rfl : k = n := by omega
      have e : mixF xs ys = if sumN xs k = 0 then 0 else divU (dotN xs ys k) (sumN xs k) := by unfold mixF; rw [HX.out]
      have HE := Lib.hid e
      clear e
      by_cases hz : sumN xs k = 0
      · have hz' : (sumN xs k == 0) = true := by simp [hz]
        have HZ := Lib.hid hz
        clear hz
        go_wp2
        go_ret
        exact ⟨ret_int (by rw [HE.out, if_pos HZ.out]), 0, rfl⟩
      · have hz' : (sumN xs k == 0) = false := by simp [hz]
        have HZ := Lib.hid hz
        have hz2 : 1 ≤ sumN xs k := by omega
        clear hz
        go_wp2_with (go_at_call 108; refine (divUp_any _ _ _ (by omega) (by omega) (by omega) (by omega)).mono ?_; rintro e w' ⟨rfl, rfl⟩)
        go_ret
        exact ⟨ret_int (by rw [HE.out, if_neg HZ.out]), 0, rfl⟩
theorem l13Mix_any (A A' : Option Addr) (c c' n : Nat) (xs ys : List Int) (B B' : Nat) (w : World) (hn : n ≤ 64) (hx : xs.length = n) (hy : ys.length = n) (hI : Ints B w A xs) (hI' : Ints B' w A' ys)
    (h1 : ∀ x ∈ xs, 0 ≤ x ∧ x ≤ 100000) (h2 : ∀ y ∈ ys, 0 ≤ y ∧ y ≤ 1000000) :
    Calls Try.prog 96 #[.slice A n c, .slice A' n c'] w fun e w' => e = .returned (.int .i64 (mixF xs ys)) ∧ ∃ n, w.drewN n = w' := by
  have HS := Lib.hid (fun k => And.intro (sumN_bd (fun x hx => ⟨(h1 x hx).1, (h1 x hx).2⟩) (Int.le_refl 0) (by omega) k) (And.intro (dotN_nonneg (fun x hx => (h1 x hx).1) (fun y hy => (h2 y hy).1) k) (dotN_bd (X := 100000) (Y := 1000000) (fun x hx => ⟨by have := h1 x hx; omega, (h1 x hx).2⟩) (fun y hy => ⟨by have := h2 y hy; omega, (h2 y hy).2⟩) (by omega) (by omega) k)))
  have H1 := Lib.hid h1
  have H2 := Lib.hid h2
  have HX := Lib.hid hx
  have HY := Lib.hid hy
  have J := Lib.hid hI
  have J' := Lib.hid hI'
  clear h1 h2 hx hy hI hI'
  go_enter Try.func96, Try.ntmps96
  go_wp2
  go_loopw [5, 6, 7] (fun s t i wr => ∃ k : Nat, k ≤ n ∧ i = .int .i64 k ∧ s = .int .i64 (dotN xs ys k) ∧ t = .int .i64 (sumN xs k) ∧ ∃ m, w.drewN m = wr) (fun _ _ i _ => n - (intOf i).toNat)
  case atStart => exact ⟨0, Nat.zero_le _, rfl, rfl, rfl, 0, rfl⟩
  case round =>
    obtain ⟨k, hk, rfl, rfl, rfl, m, rfl⟩ := hrel
    obtain ⟨⟨a1, a2⟩, a3, _, a4⟩ := HS.out k
    by_cases hlt : k < n
    · obtain ⟨ad, rfl, _, hc1⟩ := J.out.at_ (k := k) (by rw [HX.out]; exact hlt)
      obtain ⟨ad', rfl, _, hc2⟩ := J'.out.at_ (k := k) (by rw [HY.out]; exact hlt)
      obtain ⟨x1, x2⟩ := H1.out _ (List.getElem_mem (l := xs) (n := k) (by rw [HX.out]; exact hlt))
      obtain ⟨y1, y2⟩ := H2.out _ (List.getElem_mem (l := ys) (n := k) (by rw [HY.out]; exact hlt))
      have ex : xs.getD k 0 = xs[k]'(by rw [HX.out]; exact hlt) := getD_eq _
      have ey : ys.getD k 0 = ys[k]'(by rw [HY.out]; exact hlt) := getD_eq _
      rw [← ex] at hc1 x1 x2
      rw [← ey] at hc2 y1 y2
      clear ex ey
      have m1 := mul_le x1 x2 y1 y2
      have m2 := mul_ge x1 y1
      generalize hxk : xs.getD k 0 = x at *
      generalize hyk : ys.getD k 0 = y at *
      have HXK := Lib.hid hxk
      have HYK := Lib.hid hyk
      have hi0 : (0 : Int) ≤ k := by omega
      have hi1 : (k : Int) < n := by omega
      clear hxk hyk
      go_wp2_with fail
      go_quiet (fail)
      go_wp2
      go_roundw
      case rel => exact ⟨k + 1, by omega, by go_num, by rw [show dotN xs ys (k + 1) = dotN xs ys k + xs.getD k 0 * ys.getD k 0 from rfl, HXK.out, HYK.out], by rw [show sumN xs (k + 1) = sumN xs k + xs.getD k 0 from rfl, HXK.out], _, rfl⟩
      case measure => simp [intOf]; omega
    · obtain rfl : k = n := by omega
      have e : mixF xs ys = if sumN xs k = 0 then 0 else divU (dotN xs ys k) (sumN xs k) := by unfold mixF; rw [HX.out]
      have HE := Lib.hid e
      clear e
      by_cases hz : sumN xs k = 0
      · have hz' : (sumN xs k == 0) = true := by simp [hz]
        have HZ := Lib.hid hz
        clear hz
        go_wp2
        go_ret
        exact ⟨ret_int (by rw [HE.out, if_pos HZ.out]), _, rfl⟩
      · have hz' : (sumN xs k == 0) = false := by simp [hz]
        have HZ := Lib.hid hz
        have hz2 : 1 ≤ sumN xs k := by omega
        clear hz
        go_wp2
        go_ret
        exact ⟨ret_int (by rw [HE.out, if_neg HZ.out]; rfl), _, rfl⟩
def mixFlowsF (xs ys : List Int) : Int × Int := if allIn xs 0 100000 && allIn ys 0 1000000 then (if xs.length = ys.length ∧ xs.length ≤ 64 then (mixF xs ys, 0) else (0, 7)) else (0, 2)
theorem MixFlows_i (A : Option Addr) (c : Nat) (xs : List Int) (A' : Option Addr) (c' : Nat) (ys : List Int) (w : World) (hn : (xs.length : Int) ≤ 1048576) (hI : Ints w.heap.size w A xs) (hT : Fits xs) (hn' : (ys.length : Int) ≤ 1048576) (hI' : Ints w.heap.size w A' ys) (hT' : Fits ys) :
    Calls Try.prog 46 #[.slice A xs.length c, .slice A' ys.length c'] w fun e w' => e = .returned (.tuple #[.int .i64 (mixFlowsF xs ys).1, .int .i64 (mixFlowsF xs ys).2]) ∧ Below w.heap.size w w' := by
  unfold mixFlowsF
  have J := Lib.hid hI
  have J' := Lib.hid hI'
  have K := Lib.hid hT
  have K' := Lib.hid hT'
  clear hI hI' hT hT'
  cases h1 : allIn xs 0 100000
  · go_enter Try.func46, Try.ntmps46
    go_wp2_with fail
    refine (allWithin_any A c xs _ _ _ _ (by omega) J.out (Nat.le_refl _) K.out).mono ?_
    rintro e w1 ⟨rfl, hb1⟩
    go_wp2
    go_ret2
    exact ⟨by simp, hb1⟩
  · cases h2 : allIn ys 0 1000000
    · go_enter Try.func46, Try.ntmps46
      go_wp2_with fail
      refine (allWithin_any A c xs _ _ _ _ (by omega) J.out (Nat.le_refl _) K.out).mono ?_
      rintro e w1 ⟨rfl, hb1⟩
      go_wp2_with fail
      refine (allWithin_any A' c' ys _ _ _ _ (by omega) (J'.out.below hb1) hb1.size K'.out).mono ?_
      rintro e w2 ⟨rfl, hb2⟩
      go_wp2
      go_ret2
      exact ⟨by simp, hb1.trans (hb2.mono hb1.size)⟩
    · by_cases hl : xs.length = ys.length
      · by_cases h64 : xs.length ≤ 64
        · have H1 := Lib.hid (allIn_iff.1 h1)
          have H2 := Lib.hid (allIn_iff.1 h2)
          obtain ⟨n, hxn⟩ : ∃ n, xs.length = n := ⟨_, rfl⟩
          have hyn : ys.length = n := by omega
          have e : (if (true && true) = true then (if xs.length = ys.length ∧ xs.length ≤ 64 then (mixF xs ys, (0 : Int)) else (0, 7)) else (0, 2)) = (mixF xs ys, 0) := by rw [if_pos (show (true && true) = true from rfl), if_pos ⟨hl, h64⟩]
          rw [e]
          have W1 := Lib.hid (fun (W : World) => allWithin_any A c xs 0 100000 w.heap.size W (by omega))
          have W2 := Lib.hid (fun (W : World) => allWithin_any A' c' ys 0 1000000 w.heap.size W (by omega))
          rw [hxn] at W1
          rw [hyn] at W2
          rw [hxn, hyn]
          have HXN := Lib.hid hxn
          have HYN := Lib.hid hyn
          have hn64 : n ≤ 64 := by omega
          clear hl h64 hxn hyn e hn hn'
          go_enter Try.func46, Try.ntmps46
          go_wp2_with fail
          refine (W1.out _ J.out (Nat.le_refl _) K.out).mono ?_
          rintro e w1 ⟨rfl, hb1⟩
          go_wp2_with fail
          refine (W2.out _ (J'.out.below hb1) hb1.size K'.out).mono ?_
          rintro e w2 ⟨rfl, hb2⟩
          have hb12 := hb1.trans (hb2.mono hb1.size)
          go_wp2_with fail
          refine (mixShares_any A A' c c' n xs ys _ _ _ hn64 HXN.out HYN.out (J.out.below hb12) (J'.out.below hb12) H1.out H2.out).mono ?_
          rintro e w3 ⟨rfl, m, rfl⟩
          go_wp2
          go_ret2
          exact ⟨rfl, below_drewN hb12 _⟩
        · have h64' : 64 < xs.length := by omega
          have e : (if (true && true) = true then (if xs.length = ys.length ∧ xs.length ≤ 64 then (mixF xs ys, (0 : Int)) else (0, 7)) else (0, 2)) = (0, 7) := by rw [if_pos (show (true && true) = true from rfl), if_neg (fun h => h64 h.2)]
          have hne : ((xs.length : Int) != (ys.length : Int)) = false := by rw [bne_eq_false_iff_eq]; omega
          rw [e]
          clear e hl h64
          go_enter Try.func46, Try.ntmps46
          go_wp2_with fail
          refine (allWithin_any A c xs _ _ _ _ (by omega) J.out (Nat.le_refl _) K.out).mono ?_
          rintro e w1 ⟨rfl, hb1⟩
          go_wp2_with fail
          refine (allWithin_any A' c' ys _ _ _ _ (by omega) (J'.out.below hb1) hb1.size K'.out).mono ?_
          rintro e w2 ⟨rfl, hb2⟩
          go_wp2
          go_ret2
          exact ⟨rfl, hb1.trans (hb2.mono hb1.size)⟩
      · have hne : ((xs.length : Int) != (ys.length : Int)) = true := by rw [bne_iff_ne]; omega
        have e : (if (true && true) = true then (if xs.length = ys.length ∧ xs.length ≤ 64 then (mixF xs ys, (0 : Int)) else (0, 7)) else (0, 2)) = (0, 7) := by rw [if_pos (show (true && true) = true from rfl), if_neg (fun h => hl h.1)]
        rw [e]
        clear e hl
        go_enter Try.func46, Try.ntmps46
        go_wp2_with fail
        refine (allWithin_any A c xs _ _ _ _ (by omega) J.out (Nat.le_refl _) K.out).mono ?_
        rintro e w1 ⟨rfl, hb1⟩
        go_wp2_with fail
        refine (allWithin_any A' c' ys _ _ _ _ (by omega) (J'.out.below hb1) hb1.size K'.out).mono ?_
        rintro e w2 ⟨rfl, hb2⟩
        go_wp2
        go_ret2
        exact ⟨rfl, hb1.trans (hb2.mono hb1.size)⟩
theorem MixFlows_s (A : Option Addr) (c : Nat) (xs : List Int) (A' : Option Addr) (c' : Nat) (ys : List Int) (w : World) (hn : (xs.length : Int) ≤ 1048576) (hI : Ints w.heap.size w A xs) (_ : Fits xs) (hn' : (ys.length : Int) ≤ 1048576) (hI' : Ints w.heap.size w A' ys) (_ : Fits ys) :
    Calls Try.prog 45 #[.slice A xs.length c, .slice A' ys.length c'] w fun e w' => e = .returned (.tuple #[.int .i64 (mixFlowsF xs ys).1, .int .i64 (mixFlowsF xs ys).2]) ∧ Below w.heap.size w w' := by
  unfold mixFlowsF
  have J := Lib.hid hI
  have J' := Lib.hid hI'
  clear hI hI'
  rcases range_split xs 0 100000 with ⟨h1, g1⟩ | ⟨h1, b, hb, gb, g1⟩
  · rcases range_split ys 0 1000000 with ⟨h2, g2⟩ | ⟨h2, b, hb, gb, g2⟩
    · have H1 := Lib.hid (allIn_iff.1 h1)
      have H2 := Lib.hid (allIn_iff.1 h2)
      rw [h1, h2]
      have G1 := Lib.hid g1
      have G2 := Lib.hid g2
      clear h1 h2 g1 g2
      by_cases hl : xs.length = ys.length
      · by_cases h64 : xs.length ≤ 64
        · obtain ⟨n, hxn⟩ : ∃ n, xs.length = n := ⟨_, rfl⟩
          have hyn : ys.length = n := by omega
          have e : (if (true && true) = true then (if xs.length = ys.length ∧ xs.length ≤ 64 then (mixF xs ys, (0 : Int)) else (0, 7)) else (0, 2)) = (mixF xs ys, 0) := by rw [if_pos (show (true && true) = true from rfl), if_pos ⟨hl, h64⟩]
          rw [e, hxn, hyn]
          have HXN := Lib.hid hxn
          have HYN := Lib.hid hyn
          have G1' := Lib.hid (fun k (h : k < n) => G1.out k (by rw [HXN.out]; exact h))
          have G2' := Lib.hid (fun k (h : k < n) => G2.out k (by rw [HYN.out]; exact h))
          have hlx : n ≤ xs.length := by omega
          have hly : n ≤ ys.length := by omega
          have hn64 : n ≤ 64 := by omega
          clear hl h64 hxn hyn e hn hn'
          go_enter Try.func45, Try.ntmps45
          go_wp2
          go_loop [6] (fun i => ∃ k : Nat, k ≤ n ∧ i = .int .i64 k) (fun i => n + 1 - (intOf i).toNat)
          case atStart => exact ⟨0, Nat.zero_le _, rfl⟩
          case round =>
            obtain ⟨k, hk, rfl⟩ := hrel
            by_cases hlt : k < n
            · obtain ⟨ad, rfl, _, hc⟩ := J.out.at_ (k := k) (Nat.lt_of_lt_of_le hlt hlx)
              have hin := G1'.out k hlt
              generalize xs[k]'(Nat.lt_of_lt_of_le hlt hlx) = x at *
              have hkl : (k : Int) < xs.length := by have h0 : n ≤ xs.length := hlx; omega
              go_wp2_with (go_at_call 54; refine (l00In_any _ _ _ _).mono ?_; rintro e w' ⟨rfl, rfl⟩)
              go_round
              case rel => exact ⟨k + 1, by omega, by go_num⟩
              case measure => simp [intOf]; omega
            · obtain rfl : n = k := by omega
              go_wp2
              go_loop [7] (fun i => ∃ k : Nat, k ≤ n ∧ i = .int .i64 k) (fun i => n + 1 - (intOf i).toNat)
              case atStart => exact ⟨0, Nat.zero_le _, rfl⟩
              case round =>
                obtain ⟨k, hk, rfl⟩ := hrel
                by_cases hlt : k < n
                · obtain ⟨ad, rfl, _, hc⟩ := J'.out.at_ (k := k) (Nat.lt_of_lt_of_le hlt hly)
                  have hin := G2'.out k hlt
                  generalize ys[k]'(Nat.lt_of_lt_of_le hlt hly) = x at *
                  have hkl : (k : Int) < ys.length := by have h0 : n ≤ ys.length := hly; omega
                  go_wp2_with (go_at_call 54; refine (l00In_any _ _ _ _).mono ?_; rintro e w' ⟨rfl, rfl⟩)
                  go_round
                  case rel => exact ⟨k + 1, by omega, by go_num⟩
                  case measure => simp [intOf]; omega
                · obtain rfl : n = k := by omega
                  go_wp2_with fail
                  refine (l13Mix_any A A' c c' n xs ys _ _ _ hn64 HXN.out HYN.out J.out J'.out H1.out H2.out).mono ?_
                  rintro e w3 ⟨rfl, m, rfl⟩
                  go_wp2
                  go_ret2
                  exact ⟨rfl, below_drewN (Below.refl _ _) _⟩
        · have h64' : 64 < xs.length := by omega
          have e : (if (true && true) = true then (if xs.length = ys.length ∧ xs.length ≤ 64 then (mixF xs ys, (0 : Int)) else (0, 7)) else (0, 2)) = (0, 7) := by rw [if_pos (show (true && true) = true from rfl), if_neg (fun h => h64 h.2)]
          have hne : ((xs.length : Int) != (ys.length : Int)) = false := by rw [bne_eq_false_iff_eq]; omega
          rw [e]
          clear e hl h64
          go_enter Try.func45, Try.ntmps45
          go_wp2
          go_loop [6] (fun i => ∃ k : Nat, k ≤ xs.length ∧ i = .int .i64 k) (fun i => xs.length + 1 - (intOf i).toNat)
          case atStart => exact ⟨0, Nat.zero_le _, rfl⟩
          case round =>
            obtain ⟨k, hk, rfl⟩ := hrel
            by_cases hlt : k < xs.length
            · obtain ⟨ad, rfl, _, hc⟩ := J.out.at_ (k := k) (Nat.lt_of_lt_of_le hlt (Nat.le_refl _))
              have hin := G1.out k hlt
              generalize xs[k]'(Nat.lt_of_lt_of_le hlt (Nat.le_refl _)) = x at *
              have hkl : (k : Int) < xs.length := by have h0 : xs.length ≤ xs.length := (Nat.le_refl _); omega
              go_wp2_with (go_at_call 54; refine (l00In_any _ _ _ _).mono ?_; rintro e w' ⟨rfl, rfl⟩)
              go_round
              case rel => exact ⟨k + 1, by omega, by go_num⟩
              case measure => simp [intOf]; omega
            · obtain rfl : k = xs.length := by omega
              go_wp2
              go_loop [7] (fun i => ∃ k : Nat, k ≤ ys.length ∧ i = .int .i64 k) (fun i => ys.length + 1 - (intOf i).toNat)
              case atStart => exact ⟨0, Nat.zero_le _, rfl⟩
              case round =>
                obtain ⟨k, hk, rfl⟩ := hrel
                by_cases hlt : k < ys.length
                · obtain ⟨ad, rfl, _, hc⟩ := J'.out.at_ (k := k) (Nat.lt_of_lt_of_le hlt (Nat.le_refl _))
                  have hin := G2.out k hlt
                  generalize ys[k]'(Nat.lt_of_lt_of_le hlt (Nat.le_refl _)) = x at *
                  have hkl : (k : Int) < ys.length := by have h0 : ys.length ≤ ys.length := (Nat.le_refl _); omega
                  go_wp2_with (go_at_call 54; refine (l00In_any _ _ _ _).mono ?_; rintro e w' ⟨rfl, rfl⟩)
                  go_round
                  case rel => exact ⟨k + 1, by omega, by go_num⟩
                  case measure => simp [intOf]; omega
                · obtain rfl : k = ys.length := by omega
                  go_wp2
                  go_ret2
                  exact ⟨rfl, Below.refl _ _⟩
      · have hne : ((xs.length : Int) != (ys.length : Int)) = true := by rw [bne_iff_ne]; omega
        have e : (if (true && true) = true then (if xs.length = ys.length ∧ xs.length ≤ 64 then (mixF xs ys, (0 : Int)) else (0, 7)) else (0, 2)) = (0, 7) := by rw [if_pos (show (true && true) = true from rfl), if_neg (fun h => hl h.1)]
        rw [e]
        clear e hl
        go_enter Try.func45, Try.ntmps45
        go_wp2
        go_loop [6] (fun i => ∃ k : Nat, k ≤ xs.length ∧ i = .int .i64 k) (fun i => xs.length + 1 - (intOf i).toNat)
        case atStart => exact ⟨0, Nat.zero_le _, rfl⟩
        case round =>
          obtain ⟨k, hk, rfl⟩ := hrel
          by_cases hlt : k < xs.length
          · obtain ⟨ad, rfl, _, hc⟩ := J.out.at_ (k := k) (Nat.lt_of_lt_of_le hlt (Nat.le_refl _))
            have hin := G1.out k hlt
            generalize xs[k]'(Nat.lt_of_lt_of_le hlt (Nat.le_refl _)) = x at *
            have hkl : (k : Int) < xs.length := by have h0 : xs.length ≤ xs.length := (Nat.le_refl _); omega
            go_wp2_with (go_at_call 54; refine (l00In_any _ _ _ _).mono ?_; rintro e w' ⟨rfl, rfl⟩)
            go_round
            case rel => exact ⟨k + 1, by omega, by go_num⟩
            case measure => simp [intOf]; omega
          · obtain rfl : k = xs.length := by omega
            go_wp2
            go_loop [7] (fun i => ∃ k : Nat, k ≤ ys.length ∧ i = .int .i64 k) (fun i => ys.length + 1 - (intOf i).toNat)
            case atStart => exact ⟨0, Nat.zero_le _, rfl⟩
            case round =>
              obtain ⟨k, hk, rfl⟩ := hrel
              by_cases hlt : k < ys.length
              · obtain ⟨ad, rfl, _, hc⟩ := J'.out.at_ (k := k) (Nat.lt_of_lt_of_le hlt (Nat.le_refl _))
                have hin := G2.out k hlt
                generalize ys[k]'(Nat.lt_of_lt_of_le hlt (Nat.le_refl _)) = x at *
                have hkl : (k : Int) < ys.length := by have h0 : ys.length ≤ ys.length := (Nat.le_refl _); omega
                go_wp2_with (go_at_call 54; refine (l00In_any _ _ _ _).mono ?_; rintro e w' ⟨rfl, rfl⟩)
                go_round
                case rel => exact ⟨k + 1, by omega, by go_num⟩
                case measure => simp [intOf]; omega
              · obtain rfl : k = ys.length := by omega
                go_wp2
                go_ret2
                exact ⟨rfl, Below.refl _ _⟩
    · rw [h1, h2]
      have G1 := Lib.hid g1
      have G2 := Lib.hid g2
      have hbl : b ≤ ys.length := by omega
      clear h1 h2 g1 g2
      go_enter Try.func45, Try.ntmps45
      go_wp2
      go_loop [6] (fun i => ∃ k : Nat, k ≤ xs.length ∧ i = .int .i64 k) (fun i => xs.length + 1 - (intOf i).toNat)
      case atStart => exact ⟨0, Nat.zero_le _, rfl⟩
      case round =>
        obtain ⟨k, hk, rfl⟩ := hrel
        by_cases hlt : k < xs.length
        · obtain ⟨ad, rfl, _, hc⟩ := J.out.at_ (k := k) (Nat.lt_of_lt_of_le hlt (Nat.le_refl _))
          have hin := G1.out k hlt
          generalize xs[k]'(Nat.lt_of_lt_of_le hlt (Nat.le_refl _)) = x at *
          have hkl : (k : Int) < xs.length := by have h0 : xs.length ≤ xs.length := (Nat.le_refl _); omega
          go_wp2_with (go_at_call 54; refine (l00In_any _ _ _ _).mono ?_; rintro e w' ⟨rfl, rfl⟩)
          go_round
          case rel => exact ⟨k + 1, by omega, by go_num⟩
          case measure => simp [intOf]; omega
        · obtain rfl : k = xs.length := by omega
          go_wp2
          go_loop [7] (fun i => ∃ k : Nat, k ≤ b ∧ i = .int .i64 k) (fun i => b + 1 - (intOf i).toNat)
          case atStart => exact ⟨0, Nat.zero_le _, rfl⟩
          case round =>
            obtain ⟨k, hk, rfl⟩ := hrel
            by_cases hlt : k < b
            · obtain ⟨ad, rfl, _, hc⟩ := J'.out.at_ (k := k) (Nat.lt_of_lt_of_le hlt hbl)
              have hin := G2.out k hlt
              generalize ys[k]'(Nat.lt_of_lt_of_le hlt hbl) = x at *
              have hkl : (k : Int) < ys.length := by have h0 : b ≤ ys.length := hbl; omega
              go_wp2_with (go_at_call 54; refine (l00In_any _ _ _ _).mono ?_; rintro e w' ⟨rfl, rfl⟩)
              go_round
              case rel => exact ⟨k + 1, by omega, by go_num⟩
              case measure => simp [intOf]; omega
            · obtain rfl : b = k := by omega
              obtain ⟨ad, rfl, _, hc⟩ := J'.out.at_ (k := b) hb
              generalize ys[b] = y at *
              go_wp2_with (go_at_call 54; refine (l00In_any _ _ _ _).mono ?_; rintro e w' ⟨rfl, rfl⟩)
              go_ret2
              exact ⟨by simp, Below.refl _ _⟩
  · rw [h1]
    have G1 := Lib.hid g1
    have hbl : b ≤ xs.length := by omega
    clear h1 g1
    go_enter Try.func45, Try.ntmps45
    go_wp2
    go_loop [6] (fun i => ∃ k : Nat, k ≤ b ∧ i = .int .i64 k) (fun i => b + 1 - (intOf i).toNat)
    case atStart => exact ⟨0, Nat.zero_le _, rfl⟩
    case round =>
      obtain ⟨k, hk, rfl⟩ := hrel
      by_cases hlt : k < b
      · obtain ⟨ad, rfl, _, hc⟩ := J.out.at_ (k := k) (Nat.lt_of_lt_of_le hlt hbl)
        have hin := G1.out k hlt
        generalize xs[k]'(Nat.lt_of_lt_of_le hlt hbl) = x at *
        have hkl : (k : Int) < xs.length := by have h0 : b ≤ xs.length := hbl; omega
        go_wp2_with (go_at_call 54; refine (l00In_any _ _ _ _).mono ?_; rintro e w' ⟨rfl, rfl⟩)
        go_round
        case rel => exact ⟨k + 1, by omega, by go_num⟩
        case measure => simp [intOf]; omega
      · obtain rfl : b = k := by omega
        obtain ⟨ad, rfl, _, hc⟩ := J.out.at_ (k := b) hb
        generalize xs[b] = y at *
        go_wp2_with (go_at_call 54; refine (l00In_any _ _ _ _).mono ?_; rintro e w' ⟨rfl, rfl⟩)
        go_ret2
        exact ⟨by simp, Below.refl _ _⟩
theorem fnExactMixFlows_walk {w : World} (A0 : Option Addr) (c0 : Nat) (xs0 : List Int) (I0 : Ints w.heap.size w A0 xs0) (T0 : Fits xs0) (_ : xs0.length ≤ maxLen) (A1 : Option Addr) (c1 : Nat) (xs1 : List Int) (I1 : Ints w.heap.size w A1 xs1) (T1 : Fits xs1) (_ : xs1.length ≤ maxLen) :
    Calls Try.prog 13 #[.slice A0 xs0.length c0, .slice A1 xs1.length c1] w fun e w' => e = .returned (.bool true) ∧ Below w.heap.size w w' := by
  by_cases hn0 : (xs0.length : Int) ≤ 1048576
  rotate_left
  · go_enter Try.func13, Try.ntmps13
    go_wp2
    go_ret
    exact ⟨rfl, Below.refl _ _⟩
  by_cases hn1 : (xs1.length : Int) ≤ 1048576
  rotate_left
  · go_enter Try.func13, Try.ntmps13
    go_wp2
    go_ret
    exact ⟨rfl, Below.refl _ _⟩
  go_enter Try.func13, Try.ntmps13
  have be0 := Below.refl w.heap.size w
  go_wp2_with fail
  refine (toInt64S_any A0 c0 xs0 w.heap.size _ (by omega) (I0.below be0) be0.size).mono ?_
  rintro e w1 ⟨rfl, ho1, hb1⟩
  have be1 := be0.trans (hb1.mono be0.size)
  go_wp2_with fail
  refine (toInt64S_any A1 c1 xs1 w.heap.size _ (by omega) (I1.below be1) be1.size).mono ?_
  rintro e w2 ⟨rfl, ho2, hb2⟩
  have be2 := be1.trans (hb2.mono be1.size)
  go_wp2_with fail
  refine (MixFlows_s _ _ xs0 _ _ xs1 _ (by omega) (ho1|>.later hb2 ).ints T0 (by omega) (ho2).ints T1).mono ?_
  rintro e w3 ⟨rfl, hb3⟩
  have be3 := be2.trans (hb3.mono be2.size)
  go_wp2_with fail
  refine (toInt64S_any A0 c0 xs0 w.heap.size _ (by omega) (I0.below be3) be3.size).mono ?_
  rintro e w4 ⟨rfl, ho4, hb4⟩
  have be4 := be3.trans (hb4.mono be3.size)
  go_wp2_with fail
  refine (toInt64S_any A1 c1 xs1 w.heap.size _ (by omega) (I1.below be4) be4.size).mono ?_
  rintro e w5 ⟨rfl, ho5, hb5⟩
  have be5 := be4.trans (hb5.mono be4.size)
  go_wp2_with fail
  refine (MixFlows_i _ _ xs0 _ _ xs1 _ (by omega) (ho4|>.later hb5 ).ints T0 (by omega) (ho5).ints T1).mono ?_
  rintro e w6 ⟨rfl, hb6⟩
  have be6 := be5.trans (hb6.mono be5.size)
  go_wp2_with fail
  refine (toInt64S_any A0 c0 xs0 w.heap.size _ (by omega) (I0.below be6) be6.size).mono ?_
  rintro e w7 ⟨rfl, ho7, hb7⟩
  have be7 := be6.trans (hb7.mono be6.size)
  go_wp2_with fail
  refine (dB (eqInt64S_yes _ _ _ _ xs0 _ _ _ (by omega) (ho4|>.later hb5 |>.later hb6 |>.later hb7 ).ints (ho7).ints)).mono ?_
  rintro e w8 ⟨rfl, hb8⟩
  have be8 := be7.trans (hb8.mono be7.size)
  go_wp2_with fail
  refine (toInt64S_any A1 c1 xs1 w.heap.size _ (by omega) (I1.below be8) be8.size).mono ?_
  rintro e w9 ⟨rfl, ho9, hb9⟩
  have be9 := be8.trans (hb9.mono be8.size)
  go_wp2_with fail
  refine (dB (eqInt64S_yes _ _ _ _ xs1 _ _ _ (by omega) (ho5|>.later hb6 |>.later hb7 |>.later hb8 |>.later hb9 ).ints (ho9).ints)).mono ?_
  rintro e w10 ⟨rfl, hb10⟩
  have be10 := be9.trans (hb10.mono be9.size)
  go_wp2_with fail
  go_ret
  exact ⟨rfl, be10⟩
end Go.Proofs.Ytnjplfcmojeedaa
