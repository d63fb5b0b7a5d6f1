/- The temperature of mixed air: the program's and the reference's; and the walk of the law. Conditions: the bounds that each theorem names. -/
import Derived.Test.YtlgagnbnjfneaaaBase
import Derived.Test.YtlgagnbnjfneaaaList
import Derived.Test.YtlgagnbnjfneaaaHof
import Derived.Test.YtlgagnbnjfneaaaPair
import Derived.Test.YtlgagnbnjfneaaaMix
import Derived.Test.YtlgagnbnjfneaaaLoss
import Derived.Test.YtlgagnbnjfneaaaMean
import Derived.IntWalk
import Derived.BigQuiet
namespace Go.Proofs.Ytlgagnbnjfneaaa
open Go.RowKit
open Pl
theorem tot_sum (xs : List Int) : ∀ k, totN xs k = sumN xs k
  | 0 => rfl
  | k + 1 => by rw [totN, sumN, tot_sum xs k]
theorem sumN_pos {xs : List Int} (h : ∀ x ∈ xs, 1 ≤ x ∧ x ≤ 100000) : ∀ k, k ≤ xs.length → (k : Int) ≤ sumN xs k ∧ sumN xs k ≤ k * 100000
  | 0, _ => by simp [sumN]
  | k + 1, hk => by
    obtain ⟨a, b⟩ := sumN_pos h k (by omega)
    have c := h _ (List.getElem_mem (l := xs) (n := k) (by omega))
    rw [← getD_eq] at c
    unfold sumN
    omega
def mixTF (xs ys : List Int) : Int := divR (dotN xs ys xs.length) (sumN xs xs.length)
set_option maxRecDepth 100000 in
theorem mixTemperature_any (A A' : Option Addr) (c c' n : Nat) (xs ys : List Int) (B : Nat) (w : World) (h0 : 1 ≤ n) (hn : n ≤ 24) (hx : xs.length = n) (hy : ys.length = n) (hI : Ints B w A xs) (hI' : Ints B w A' ys)
    (h1 : ∀ x ∈ xs, 1 ≤ x ∧ x ≤ 100000) (h2 : ∀ y ∈ ys, -100 ≤ y ∧ y ≤ 600) :
    Calls Try.prog 155 #[.slice A n c, .slice A' n c'] w fun e w' => e = .returned (.int .i64 (mixTF xs ys)) ∧ ∃ n, w.drewN n = w' := by
  have HS := Lib.hid (fun k => dotN_bd (X := 100000) (Y := 600) (fun x hx => ⟨by have := h1 x hx; omega, (h1 x hx).2⟩) (fun y hy => ⟨by have := h2 y hy; omega, (h2 y hy).2⟩) (by omega) (by omega) k)
  obtain ⟨p1, p2⟩ := sumN_pos h1 n (by omega)
  have HT := Lib.hid (sumOf_any A c n xs B w (by omega) hx hI (fun k hk => by rw [tot_sum]; have := sumN_pos h1 k (by omega); omega))
  rw [tot_sum] at HT
  unfold mixTF
  rw [hx]
  have H1 := Lib.hid h1
  have H2 := Lib.hid h2
  have HX := Lib.hid hx
  have HY := Lib.hid hy
  have J := Lib.hid hI
  have J' := Lib.hid hI'
  clear h1 h2 hx hy hI hI'
  go_enter Try.func155, Try.ntmps155
  go_wp2
  go_loop [5, 10] (fun s i => ∃ k : Nat, k ≤ n ∧ i = .int .i64 k ∧ s = .int .i64 (dotN xs ys k)) (fun _ i => n - (intOf i).toNat)
  case atStart => exact ⟨0, Nat.zero_le _, rfl, rfl⟩
  case round =>
    obtain ⟨k, hk, rfl, rfl⟩ := hrel
    obtain ⟨a1, a2⟩ := HS.out k
    by_cases hlt : k < n
    · obtain ⟨ad, rfl, _, hc1⟩ := J.out.at_ (k := k) (by rw [HX.out]; exact hlt)
      obtain ⟨ad', rfl, _, hc2⟩ := J'.out.at_ (k := k) (by rw [HY.out]; exact hlt)
      obtain ⟨x1, x2⟩ := H1.out _ (List.getElem_mem (l := xs) (n := k) (by rw [HX.out]; exact hlt))
      obtain ⟨y1, y2⟩ := H2.out _ (List.getElem_mem (l := ys) (n := k) (by rw [HY.out]; exact hlt))
      rw [← getD_eq] at hc1 hc2 x1 x2 y1 y2
      obtain ⟨m1, m2⟩ := mul_abs (by omega : -100000 ≤ xs.getD k 0) x2 (by omega : -600 ≤ ys.getD k 0) y2
      have hs : dotN xs ys (k + 1) = dotN xs ys k + xs.getD k 0 * ys.getD k 0 := rfl
      have HSS := Lib.hid hs
      clear hs
      generalize xs.getD k 0 = x at *
      generalize ys.getD k 0 = y at *
      generalize dotN xs ys k = d at *
      go_wp2
      go_round
      case rel => exact ⟨k + 1, by omega, by go_num, by rw [HSS.out]⟩
      case measure => simp [intOf]; omega
    · obtain rfl : k = n := by omega
      generalize hd : dotN xs ys k = d at *
      generalize ht : sumN xs k = t at *
      have HD := Lib.hid hd
      have HE := Lib.hid ht
      clear hd ht
      go_wp2_with (first | (go_at_call 168; refine (HT.out).mono ?_; rintro e w' ⟨rfl, rfl⟩) | (go_at_call 94; refine (divRound_any _ _ _ (by omega) (by omega) (by omega) (by omega)).mono ?_; rintro e w' ⟨rfl, _, rfl⟩))
      go_ret
      exact ⟨ret_int (by rw [HD.out, HE.out]), _, rfl⟩
set_option maxRecDepth 100000 in
theorem l16Mix_any (A A' : Option Addr) (c c' n : Nat) (xs ys : List Int) (B : Nat) (w : World) (h0 : 1 ≤ n) (hn : n ≤ 24) (hx : xs.length = n) (hy : ys.length = n) (hI : Ints B w A xs) (hI' : Ints B w A' ys)
    (h1 : ∀ x ∈ xs, 1 ≤ x ∧ x ≤ 100000) (h2 : ∀ y ∈ ys, -100 ≤ y ∧ y ≤ 600) :
    Calls Try.prog 118 #[.slice A n c, .slice A' n c'] w fun e w' => e = .returned (.int .i64 (mixTF xs ys)) ∧ ∃ n, w.drewN n = w' := by
  have HS := Lib.hid (fun k => dotN_bd (X := 100000) (Y := 600) (fun x hx => ⟨by have := h1 x hx; omega, (h1 x hx).2⟩) (fun y hy => ⟨by have := h2 y hy; omega, (h2 y hy).2⟩) (by omega) (by omega) k)
  have HP := Lib.hid (fun k (hk : k ≤ n) => sumN_pos h1 k (by omega))
  unfold mixTF
  rw [hx]
  have H1 := Lib.hid h1
  have H2 := Lib.hid h2
  have HX := Lib.hid hx
  have HY := Lib.hid hy
  have J := Lib.hid hI
  have J' := Lib.hid hI'
  clear h1 h2 hx hy hI hI'
  go_enter Try.func118, Try.ntmps118
  go_wp2
  go_loopw [5, 6, 7] (fun s t i wr => ∃ k : Nat, k ≤ n ∧ i = .int .i64 k ∧ s = .int .i64 (dotN xs ys k) ∧ t = .int .i64 (sumN xs k) ∧ ∃ m, w.drewN m = wr) (fun _ _ i _ => n - (intOf i).toNat)
  case atStart => exact ⟨0, Nat.zero_le _, rfl, rfl, rfl, 0, rfl⟩
  case round =>
    obtain ⟨k, hk, rfl, rfl, rfl, m, rfl⟩ := hrel
    obtain ⟨a1, a2⟩ := HS.out k
    obtain ⟨a3, a4⟩ := HP.out k hk
    by_cases hlt : k < n
    · obtain ⟨ad, rfl, _, hc1⟩ := J.out.at_ (k := k) (by rw [HX.out]; exact hlt)
      obtain ⟨ad', rfl, _, hc2⟩ := J'.out.at_ (k := k) (by rw [HY.out]; exact hlt)
      obtain ⟨x1, x2⟩ := H1.out _ (List.getElem_mem (l := xs) (n := k) (by rw [HX.out]; exact hlt))
      obtain ⟨y1, y2⟩ := H2.out _ (List.getElem_mem (l := ys) (n := k) (by rw [HY.out]; exact hlt))
      rw [← getD_eq] at hc1 hc2 x1 x2 y1 y2
      obtain ⟨m1, m2⟩ := mul_abs (by omega : -100000 ≤ xs.getD k 0) x2 (by omega : -600 ≤ ys.getD k 0) y2
      have hs : dotN xs ys (k + 1) = dotN xs ys k + xs.getD k 0 * ys.getD k 0 := rfl
      have hs' : sumN xs (k + 1) = sumN xs k + xs.getD k 0 := rfl
      have HSS := Lib.hid hs
      have HSS' := Lib.hid hs'
      have hi0 : (0 : Int) ≤ k := by omega
      have hi1 : (k : Int) < n := by omega
      clear hs hs'
      generalize xs.getD k 0 = x at *
      generalize ys.getD k 0 = y at *
      generalize dotN xs ys k = d at *
      generalize sumN xs k = t at *
      go_wp2_with fail
      go_quiet (fail)
      go_wp2
      go_roundw
      case rel => exact ⟨k + 1, by omega, by go_num, by rw [HSS.out], by rw [HSS'.out], _, rfl⟩
      case measure => simp [intOf]; omega
    · obtain rfl : k = n := by omega
      generalize hd : dotN xs ys k = d at *
      generalize ht : sumN xs k = t at *
      have HD := Lib.hid hd
      have HE := Lib.hid ht
      clear hd ht
      go_wp2_with (go_at_call 88; refine (l01Div_any _ _ _ (by omega) (by omega) (by omega) (by omega)).mono ?_; rintro e w' ⟨rfl, rfl⟩)
      go_ret
      exact ⟨ret_int (by rw [HD.out, HE.out]), _, rfl⟩
end Go.Proofs.Ytlgagnbnjfneaaa
