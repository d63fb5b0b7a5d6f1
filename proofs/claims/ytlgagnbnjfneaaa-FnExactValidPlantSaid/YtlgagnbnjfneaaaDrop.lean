/- The drop along an airway, and lists that go with a mine. Conditions: the bounds that each theorem names. -/
import Derived.Test.YtlgagnbnjfneaaaMark
namespace Go.Proofs.Ytlgagnbnjfneaaa
open Go.RowKit
open Pl
theorem mulB {a b A B : Int} (h0 : 0 ≤ a) (h1 : a ≤ A) (h2 : -B ≤ b) (h3 : b ≤ B) : -(A * B) ≤ a * b ∧ a * b ≤ A * B := by
  by_cases h : 0 ≤ b
  · have x := mul_le h0 h1 h h3
    have y := mul_ge h0 h
    exact ⟨by omega, x⟩
  · have x := mul_le h0 h1 (show 0 ≤ -b by omega) (show -b ≤ B by omega)
    have y := mul_ge h0 (show 0 ≤ -b by omega)
    have z : a * -b = -(a * b) := Int.mul_neg a b
    rw [z] at x y
    exact ⟨by omega, by omega⟩
def dropZ (r f : Int) : Int := divR (r * f * (f.natAbs : Int)) 10000000000
theorem drop_bd {r f : Int} (h1 : 0 ≤ r) (h2 : r ≤ 1000000) (h3 : -100000 ≤ f) (h4 : f ≤ 100000) : (-100000000000 ≤ r * f ∧ r * f ≤ 100000000000) ∧ (-10000000000000000 ≤ r * f * (f.natAbs : Int) ∧ r * f * (f.natAbs : Int) ≤ 10000000000000000) := by
  obtain ⟨a, b⟩ := mulB h1 h2 h3 h4
  obtain ⟨c, d⟩ := mulB (a := (f.natAbs : Int)) (b := r * f) (A := 100000) (B := 100000000000) (by omega) (by omega) (by omega) (by omega)
  rw [Int.mul_comm (f.natAbs : Int) (r * f)] at c d
  exact ⟨⟨by omega, by omega⟩, ⟨by omega, by omega⟩⟩
theorem dropOf_any (r f : Int) (w : World) (h1 : 0 ≤ r) (h2 : r ≤ 1000000) (h3 : -100000 ≤ f) (h4 : f ≤ 100000) :
    Calls Try.prog 47 #[.int .i64 r, .int .i64 f] w fun e w' => e = .returned (.int .i64 (dropZ r f)) ∧ ∃ n, w.drewN n = w' := by
  obtain ⟨⟨a, b⟩, c, d⟩ := drop_bd h1 h2 h3 h4
  obtain ⟨R, hR⟩ : ∃ R, R = dropZ r f := ⟨_, rfl⟩
  rw [← hR]
  have HR := Lib.hid hR
  clear hR
  go_enter Try.func47, Try.ntmps47
  go_wp2_with (first | (go_at_call 95; refine (abs_any _ _ (by omega) (by omega)).mono ?_; rintro e w' ⟨rfl, rfl⟩) | (go_at_call 94; refine (divRound_any _ _ _ (by omega) (by omega) (by omega) (by omega)).mono ?_; rintro e w' ⟨rfl, _, rfl⟩))
  go_ret
  exact ⟨by rw [HR.out]; rfl, _, rfl⟩
theorem l03Drop_any (r f : Int) (w : World) (h1 : 0 ≤ r) (h2 : r ≤ 1000000) (h3 : -100000 ≤ f) (h4 : f ≤ 100000) :
    Calls Try.prog 42 #[.int .i64 r, .int .i64 f] w fun e w' => e = .returned (.int .i64 (dropZ r f)) ∧ w = w' := by
  obtain ⟨⟨a, b⟩, c, d⟩ := drop_bd h1 h2 h3 h4
  obtain ⟨R, hR⟩ : ∃ R, R = dropZ r f := ⟨_, rfl⟩
  rw [← hR]
  have HR := Lib.hid hR
  clear hR
  have e : ((f.natAbs : Nat) : Int) = mx f (-f) := by unfold mx; split <;> omega
  have HE := Lib.hid e
  rw [e] at c d
  have HD := Lib.hid (show dropZ r f = divR (r * f * mx f (-f)) 10000000000 by unfold dropZ; rw [e])
  have HA : ∀ W, Calls Try.prog 89 #[.int .i64 f] W fun e w' => e = .returned (.int .i64 (mx f (-f))) ∧ W = w' := by
    intro W
    clear HE e HR HD a b c d
    go_enter Try.func89, Try.ntmps89
    go_wp2_with (go_at_call 141; refine (l00Max_any _ _ _).mono ?_; rintro e w' ⟨rfl, rfl⟩)
    go_ret
    exact ⟨rfl, rfl⟩
  clear e
  generalize mx f (-f) = q at *
  go_enter Try.func42, Try.ntmps42
  go_wp2_with (first | (go_at_call 89; refine (HA _).mono ?_; rintro e w' ⟨rfl, rfl⟩) | (go_at_call 88; refine (l01Div_any _ _ _ (by omega) (by omega) (by omega) (by omega)).mono ?_; rintro e w' ⟨rfl, rfl⟩))
  go_ret
  exact ⟨by rw [HR.out, HD.out]; rfl, rfl⟩
theorem hasList_any (J : Int) (A : Option Addr) (cp : Nat) (xs : List Aw) (A' : Option Addr) (c' : Nat) (ys : List Int) (lo hi : Int) (B : Nat) (w : World) (_ : (xs.length : Int) ≤ 1099511627776) (hn : (ys.length : Int) ≤ 1099511627776) (hI : Ints B w A' ys) (hB : B ≤ w.heap.size) (hT : Fits ys) :
    Calls Try.prog 45 #[.agg #[.int .i64 J, .slice A xs.length cp], .slice A' ys.length c', .int .i64 lo, .int .i64 hi] w fun e w' => e = .returned (.bool (decide ((ys.length : Int) = xs.length) && allIn ys lo hi)) ∧ Below w.heap.size w w' := by
  have HS := Lib.hid (fun (W : World) (hb : Below w.heap.size w W) => allWithin_any A' c' ys lo hi w.heap.size W hn ((hI.more hB).below hb) hb.size hT)
  clear hI hT
  generalize allIn ys lo hi = b at *
  by_cases he : (ys.length : Int) = xs.length
  · have HE := Lib.hid he
    go_enter Try.func45, Try.ntmps45
    go_wp2_with fail
    refine (HS.out _ (by go_grown)).mono ?_
    rintro e w1 ⟨rfl, hb1⟩
    obtain ⟨hc1, hf1⟩ := bcell hb1
    have q1_0 : w.heap.size < w1.heap.size := by have := hb1.size; simp at this; omega
    have be1 : Below w.heap.size w w1 := ((Below.refl w.heap.size w).alloc (by simp) _).trans (hb1.mono (by simp))
    have hbe := be1
    go_wp2_with fail
    go_ret
    exact ⟨ret_bool (by simp [HE.out]), hbe⟩
  · have HE := Lib.hid he
    go_enter Try.func45, Try.ntmps45
    go_wp2_with fail
    go_ret
    exact ⟨ret_bool (by simp [HE.out]), by go_grown⟩
theorem hasFlows_any (J : Int) (A : Option Addr) (cp : Nat) (xs : List Aw) (A' : Option Addr) (c' : Nat) (ys : List Int) (B : Nat) (w : World) (hx : (xs.length : Int) ≤ 1099511627776) (hn : (ys.length : Int) ≤ 1099511627776) (hI : Ints B w A' ys) (hB : B ≤ w.heap.size) (hT : Fits ys) :
    Calls Try.prog 46 #[.agg #[.int .i64 J, .slice A xs.length cp], .slice A' ys.length c'] w fun e w' => e = .returned (.bool (decide ((ys.length : Int) = xs.length) && allIn ys (-100000) 100000)) ∧ Below w.heap.size w w' := by
  have HS := Lib.hid (fun (W : World) (hb : Below w.heap.size w W) => hasList_any J A cp xs A' c' ys (-100000) 100000 w.heap.size W hx hn ((hI.more hB).below hb) hb.size hT)
  clear hI hT
  generalize (decide ((ys.length : Int) = xs.length) && allIn ys (-100000) 100000) = b at *
  go_enter Try.func46, Try.ntmps46
  go_wp2_with fail
  refine (HS.out _ (by go_grown)).mono ?_
  rintro e w1 ⟨rfl, hb1⟩
  obtain ⟨hc1, hf1⟩ := bcell hb1
  have q1_0 : w.heap.size < w1.heap.size := by have := hb1.size; simp at this; omega
  have be1 : Below w.heap.size w w1 := ((Below.refl w.heap.size w).alloc (by simp) _).trans (hb1.mono (by simp))
  have hbe := be1
  go_wp2_with fail
  go_ret
  exact ⟨rfl, hbe⟩
end Go.Proofs.Ytlgagnbnjfneaaa
