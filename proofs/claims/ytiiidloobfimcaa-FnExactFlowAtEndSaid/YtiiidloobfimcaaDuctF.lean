/- Flows in ducts: joints, what is left behind some of them; the program's and the reference's; and the walks of the laws. Conditions: the bounds that each theorem names. -/
import Derived.Test.YtiiidloobfimcaaDuct
import Derived.Test.YtiiidloobfimcaaSteps
import Derived.Test.YtiiidloobfimcaaQuiet
import Derived.Deep.RegionWith
import Derived.Outline
namespace Go.Proofs.Ytiiidloobfimcaa
open Go.RowKit
open Pl
theorem ductB_bd {s : ByteArray} {l j x : Int} (h : ductB s l j x = true) : 1 ≤ l ∧ l ≤ 2000 ∧ 5 ≤ j ∧ j ≤ 50 ∧ 0 ≤ x ∧ x ≤ 100000 := by
  unfold ductB at h
  simp only [Bool.and_eq_true] at h
  obtain ⟨_, h1, h2, h3⟩ := h
  have a := inB_iff.1 h1; have b := inB_iff.1 h2; have c := inB_iff.1 h3
  omega
/-- The number of joints. -/
def jointsF (l j : Int) : Int := (l - 1) / j
theorem joints_bd {l j : Int} (h1 : 1 ≤ l) (h2 : l ≤ 2000) (h3 : 5 ≤ j) : 0 ≤ jointsF l j ∧ jointsF l j ≤ 2000 := by
  unfold jointsF
  have a : 0 ≤ (l - 1) / j := Int.ediv_nonneg (by omega) (by omega)
  have b : (l - 1) / j ≤ l - 1 := Int.ediv_le_self _ (by omega)
  omega
theorem joints_ex (s : ByteArray) (l j x : Int) (w : World) (h1 : 1 ≤ l) (h2 : l ≤ 2000) (h3 : 5 ≤ j) (h4 : j ≤ 50) :
    Calls Try.prog 85 #[.agg #[.string s, .int .i64 l, .int .i64 j, .int .i64 x]] w fun e w' => e = .returned (.int .i64 (jointsF l j)) ∧ w.alloc (.cells #[.string s, .int .i64 l, .int .i64 j, .int .i64 x] 48) = w' := by
  unfold jointsF
  go_enter Try.func85, Try.ntmps85
  go_wp2
  go_ret
  exact ⟨rfl, rfl⟩
theorem joints_any (s : ByteArray) (l j x : Int) (w : World) (h1 : 1 ≤ l) (h2 : l ≤ 2000) (h3 : 5 ≤ j) (h4 : j ≤ 50) :
    Calls Try.prog 85 #[.agg #[.string s, .int .i64 l, .int .i64 j, .int .i64 x]] w fun e w' => e = .returned (.int .i64 (jointsF l j)) ∧ Below w.heap.size w w' := by
  refine (joints_ex s l j x w h1 h2 h3 h4).mono ?_
  rintro e w' ⟨he, rfl⟩
  exact ⟨he, by go_grown⟩
theorem l11Joints_any (b o : Nat) (l j : Int) (w : World) (h1 : 1 ≤ l) (h2 : l ≤ 2000) (h3 : 5 ≤ j) (h4 : j ≤ 50) (c1 : w.cell? ⟨b, o + 1, none⟩ = some (.int .i64 l)) (c2 : w.cell? ⟨b, o + 2, none⟩ = some (.int .i64 j)) :
    Calls Try.prog 81 #[.pointer (some ⟨b, o, none⟩)] w fun e w' => e = .returned (.int .i64 (jointsF l j)) ∧ ∃ n, w.drewN n = w' := by
  unfold jointsF
  go_enter Try.func81, Try.ntmps81
  go_wp2
  first
  | (go_ret; exact ⟨rfl, 0, rfl⟩)
  | (go_quiet (fail)
     go_wp2
     go_ret
     exact ⟨rfl, _, rfl⟩)
theorem after_ex (s : ByteArray) (l j x : Int) (q : Int) (T : Nat) (w : World) (h1 : 0 ≤ q) (h2 : q ≤ 100000) (h3 : 0 ≤ x) (h4 : x ≤ 100000) (hT : T ≤ 2000) :
    Calls Try.prog 86 #[.agg #[.string s, .int .i64 l, .int .i64 j, .int .i64 x], .int .i64 q, .int .i64 T] w fun e w' => e = .returned (.int .i64 (settleF q x T)) ∧ ∃ n, (w.alloc (.cells #[.string s, .int .i64 l, .int .i64 j, .int .i64 x] 48)).drewN n = w' := by
  go_enter Try.func86, Try.ntmps86
  go_wp2
  go_loopw [1, 8] (fun y i wr => ∃ k : Nat, k ≤ T ∧ i = .int .i64 k ∧ y = .int .i64 (settleF q x k) ∧ ∃ n, (w.alloc (.cells #[.string s, .int .i64 l, .int .i64 j, .int .i64 x] 48)).drewN n = wr) (fun _ i _ => T - (intOf i).toNat)
  case atStart => exact ⟨0, Nat.zero_le _, rfl, rfl, 0, rfl⟩
  case round =>
    obtain ⟨k, hk, rfl, rfl, n, rfl⟩ := hrel
    obtain ⟨a, b⟩ := settle_bd (d := q) (s := x) (by omega) (by omega) h3 (by omega) k
    obtain ⟨c1, c2, c3, c4⟩ := settle_step a b h3 (by omega)
    by_cases hlt : k < T
    · go_wp2_with (go_at_call 77; refine (divRound_any _ _ _ (by omega) (by omega) (by omega) (by omega)).mono ?_; rintro e w' ⟨rfl, _, rfl⟩)
      go_roundw
      case rel => exact ⟨k + 1, by omega, by go_num, rfl, _, rfl⟩
      case measure => simp [intOf]; omega
    · obtain rfl : T = k := by omega
      go_wp2
      go_ret
      exact ⟨rfl, _, rfl⟩
theorem after_any (s : ByteArray) (l j x : Int) (q : Int) (T : Nat) (w : World) (h1 : 0 ≤ q) (h2 : q ≤ 100000) (h3 : 0 ≤ x) (h4 : x ≤ 100000) (hT : T ≤ 2000) :
    Calls Try.prog 86 #[.agg #[.string s, .int .i64 l, .int .i64 j, .int .i64 x], .int .i64 q, .int .i64 T] w fun e w' => e = .returned (.int .i64 (settleF q x T)) ∧ Below w.heap.size w w' := by
  refine (after_ex s l j x q T w h1 h2 h3 h4 hT).mono ?_
  rintro e w' ⟨he, n, rfl⟩
  exact ⟨he, below_drewN (by go_grown) _⟩
theorem l11After_any (b o : Nat) (x q : Int) (T : Nat) (w : World) (h1 : 0 ≤ q) (h2 : q ≤ 100000) (h3 : 0 ≤ x) (h4 : x ≤ 100000) (hT : T ≤ 2000) (c3 : w.cell? ⟨b, o + 3, none⟩ = some (.int .i64 x)) :
    Calls Try.prog 82 #[.pointer (some ⟨b, o, none⟩), .int .i64 q, .int .i64 T] w fun e w' => e = .returned (.int .i64 (settleF q x T)) ∧ ∃ n, w.drewN n = w' := by
  go_enter Try.func82, Try.ntmps82
  go_wp2
  go_loop [1, 7] (fun y i => ∃ k : Nat, k ≤ T ∧ i = .int .i64 k ∧ y = .int .i64 (settleF q x k)) (fun _ i => T - (intOf i).toNat)
  case atStart => exact ⟨0, Nat.zero_le _, rfl, rfl⟩
  case round =>
    obtain ⟨k, hk, rfl, rfl⟩ := hrel
    obtain ⟨a, b⟩ := settle_bd (d := q) (s := x) (by omega) (by omega) h3 (by omega) k
    obtain ⟨c1, c2, c3, c4⟩ := settle_step a b h3 (by omega)
    by_cases hlt : k < T
    · go_wp2_with (go_at_call 74; refine (l01Div_any _ _ _ (by omega) (by omega) (by omega) (by omega)).mono ?_; rintro e w' ⟨rfl, rfl⟩)
      go_round
      case rel => exact ⟨k + 1, by omega, by go_num, rfl⟩
      case measure => simp [intOf]; omega
    · obtain rfl : T = k := by omega
      go_wp2
      go_ret
      exact ⟨rfl, 0, rfl⟩
noncomputable def flowAfterF (s : ByteArray) (l j x q t : Int) : Int × Int := if ductB s l j x then (if inB q 0 100000 && inB t 0 (jointsF l j) then (settleF q x t.toNat, 0) else (0, 2)) else (0, 1)
theorem FlowAfter_i (s : ByteArray) (l j x q t : Int) (w : World) (hs : s.size ≤ maxLen) :
    Calls Try.prog 38 #[.agg #[.string s, .int .i64 l, .int .i64 j, .int .i64 x], .int .i64 q, .int .i64 t] w fun e w' => e = .returned (.tuple #[.int .i64 (flowAfterF s l j x q t).1, .int .i64 (flowAfterF s l j x q t).2]) ∧ Below w.heap.size w w' := by
  unfold flowAfterF
  cases h0 : ductB s l j x
  · go_enter Try.func38, Try.ntmps38
    go_wp2_with fail
    refine (ValidDuct_i _ _ _ _ _ hs).mono ?_
    rintro e w1 ⟨rfl, hb1⟩
    obtain ⟨hc1, hf1⟩ := bcell hb1
    have q1_0 : w.heap.size < w1.heap.size := by have := hb1.size; simp at this; omega
    have be1 : Below w.heap.size w w1 := ((Below.refl w.heap.size w).alloc (by simp) _).trans (hb1.mono (by simp))
    have hbe := be1
    go_wp2_with fail
    go_ret2
    exact ⟨by simp, hbe⟩
  · obtain ⟨k1, k2, k3, k4, k5, k6⟩ := ductB_bd h0
    obtain ⟨k7, k8⟩ := joints_bd k1 k2 k3
    cases h1 : inB q 0 100000
    · go_enter Try.func38, Try.ntmps38
      go_wp2_with (go_at_call 84; refine (ductFlow_any _ _).mono ?_; rintro e w' ⟨rfl, rfl⟩)
      refine (ValidDuct_i _ _ _ _ _ hs).mono ?_
      rintro e w1 ⟨rfl, hb1⟩
      obtain ⟨hc1, hf1⟩ := bcell hb1
      have q1_0 : w.heap.size < w1.heap.size := by have := hb1.size; simp at this; omega
      have be1 : Below w.heap.size w w1 := ((Below.refl w.heap.size w).alloc (by simp) _).trans (hb1.mono (by simp))
      have hbe := be1
      go_wp2_with (go_at_call 84; refine (ductFlow_any _ _).mono ?_; rintro e w' ⟨rfl, rfl⟩)
      go_ret2
      exact ⟨by simp, hbe⟩
    · obtain ⟨q1, q2⟩ := inB_iff.1 h1
      cases h2 : inB t 0 (jointsF l j)
      · go_enter Try.func38, Try.ntmps38
        go_wp2_with (first | (go_at_call 84; refine (ductFlow_any _ _).mono ?_; rintro e w' ⟨rfl, rfl⟩) | (go_at_call 60; refine (within_any _ _ _ _).mono ?_; rintro e w' ⟨rfl, rfl⟩))
        refine (ValidDuct_i _ _ _ _ _ hs).mono ?_
        rintro e w1 ⟨rfl, hb1⟩
        obtain ⟨hc1, hf1⟩ := bcell hb1
        have q1_0 : w.heap.size < w1.heap.size := by have := hb1.size; simp at this; omega
        have be1 : Below w.heap.size w w1 := ((Below.refl w.heap.size w).alloc (by simp) _).trans (hb1.mono (by simp))
        go_wp2_with (first | (go_at_call 84; refine (ductFlow_any _ _).mono ?_; rintro e w' ⟨rfl, rfl⟩) | (go_at_call 60; refine (within_any _ _ _ _).mono ?_; rintro e w' ⟨rfl, rfl⟩))
        refine (joints_any _ _ _ _ _ k1 k2 k3 k4).mono ?_
        rintro e w2 ⟨rfl, hb2⟩
        obtain ⟨hc2, hf2⟩ := bcell hb2
        have q2_0 : w.heap.size < w2.heap.size := by have := hb2.size; omega
        have be2 : Below w.heap.size w w2 := be1.trans (hb2.mono (by omega))
        have hbe := be2
        go_wp2_with (first | (go_at_call 84; refine (ductFlow_any _ _).mono ?_; rintro e w' ⟨rfl, rfl⟩) | (go_at_call 60; refine (within_any _ _ _ _).mono ?_; rintro e w' ⟨rfl, rfl⟩))
        go_ret2
        exact ⟨by simp, hbe⟩
      · obtain ⟨t1, t2⟩ := inB_iff.1 h2
        obtain ⟨T, rfl⟩ := Int.eq_ofNat_of_zero_le t1
        go_enter Try.func38, Try.ntmps38
        go_wp2_with (first | (go_at_call 84; refine (ductFlow_any _ _).mono ?_; rintro e w' ⟨rfl, rfl⟩) | (go_at_call 60; refine (within_any _ _ _ _).mono ?_; rintro e w' ⟨rfl, rfl⟩))
        refine (ValidDuct_i _ _ _ _ _ hs).mono ?_
        rintro e w1 ⟨rfl, hb1⟩
        obtain ⟨hc1, hf1⟩ := bcell hb1
        have q1_0 : w.heap.size < w1.heap.size := by have := hb1.size; simp at this; omega
        have be1 : Below w.heap.size w w1 := ((Below.refl w.heap.size w).alloc (by simp) _).trans (hb1.mono (by simp))
        go_wp2_with (first | (go_at_call 84; refine (ductFlow_any _ _).mono ?_; rintro e w' ⟨rfl, rfl⟩) | (go_at_call 60; refine (within_any _ _ _ _).mono ?_; rintro e w' ⟨rfl, rfl⟩))
        refine (joints_any _ _ _ _ _ k1 k2 k3 k4).mono ?_
        rintro e w2 ⟨rfl, hb2⟩
        obtain ⟨hc2, hf2⟩ := bcell hb2
        have q2_0 : w.heap.size < w2.heap.size := by have := hb2.size; omega
        have be2 : Below w.heap.size w w2 := be1.trans (hb2.mono (by omega))
        go_wp2_with (first | (go_at_call 84; refine (ductFlow_any _ _).mono ?_; rintro e w' ⟨rfl, rfl⟩) | (go_at_call 60; refine (within_any _ _ _ _).mono ?_; rintro e w' ⟨rfl, rfl⟩))
        refine (after_any _ _ _ _ _ _ _ q1 q2 k5 k6 (by omega)).mono ?_
        rintro e w3 ⟨rfl, hb3⟩
        obtain ⟨hc3, hf3⟩ := bcell hb3
        have q3_0 : w.heap.size < w3.heap.size := by have := hb3.size; omega
        have be3 : Below w.heap.size w w3 := be2.trans (hb3.mono (by omega))
        have hbe := be3
        go_wp2_with (first | (go_at_call 84; refine (ductFlow_any _ _).mono ?_; rintro e w' ⟨rfl, rfl⟩) | (go_at_call 60; refine (within_any _ _ _ _).mono ?_; rintro e w' ⟨rfl, rfl⟩))
        go_ret2
        exact ⟨by simp, hbe⟩
theorem FlowAfter_s (s : ByteArray) (l j x q t : Int) (w : World) (hs : s.size ≤ maxLen) :
    Calls Try.prog 36 #[.agg #[.string s, .int .i64 l, .int .i64 j, .int .i64 x], .int .i64 q, .int .i64 t] w fun e w' => e = .returned (.tuple #[.int .i64 (flowAfterF s l j x q t).1, .int .i64 (flowAfterF s l j x q t).2]) ∧ Below w.heap.size w w' := by
  unfold flowAfterF
  cases h0 : ductB s l j x
  · go_enter Try.func36, Try.ntmps36
    go_wp2_with (go_at_call 79; refine (l11Ok_any _ _ s l j x _ hs (by simp) (by simp) (by simp) (by simp)).mono ?_; rintro e w' ⟨rfl, _, rfl⟩)
    go_ret2
    exact ⟨by simp, below_drewN (by go_grown) _⟩
  · obtain ⟨k1, k2, k3, k4, k5, k6⟩ := ductB_bd h0
    obtain ⟨k7, k8⟩ := joints_bd k1 k2 k3
    cases h1 : inB q 0 100000
    · go_enter Try.func36, Try.ntmps36
      go_wp2_with (first | (go_at_call 79; refine (l11Ok_any _ _ s l j x _ hs (by simp) (by simp) (by simp) (by simp)).mono ?_; rintro e w' ⟨rfl, _, rfl⟩) | (go_at_call 80; refine (l11Flow_any _ _).mono ?_; rintro e w' ⟨rfl, rfl⟩))
      go_ret2
      exact ⟨by simp, below_drewN (by go_grown) _⟩
    · obtain ⟨q1, q2⟩ := inB_iff.1 h1
      cases h2 : inB t 0 (jointsF l j)
      · go_enter Try.func36, Try.ntmps36
        go_wp2_with (first | (go_at_call 79; refine (l11Ok_any _ _ s l j x _ hs (by simp) (by simp) (by simp) (by simp)).mono ?_; rintro e w' ⟨rfl, _, rfl⟩) | (go_at_call 80; refine (l11Flow_any _ _).mono ?_; rintro e w' ⟨rfl, rfl⟩) | (go_at_call 56; refine (l00In_any _ _ _ _).mono ?_; rintro e w' ⟨rfl, rfl⟩) | (go_at_call 81; refine (l11Joints_any _ _ l j _ k1 k2 k3 k4 (by simp) (by simp)).mono ?_; rintro e w' ⟨rfl, _, rfl⟩))
        go_ret2
        exact ⟨by simp, below_drewN (by go_grown) _⟩
      · obtain ⟨t1, t2⟩ := inB_iff.1 h2
        obtain ⟨T, rfl⟩ := Int.eq_ofNat_of_zero_le t1
        go_enter Try.func36, Try.ntmps36
        go_wp2_with (first | (go_at_call 79; refine (l11Ok_any _ _ s l j x _ hs (by simp) (by simp) (by simp) (by simp)).mono ?_; rintro e w' ⟨rfl, _, rfl⟩) | (go_at_call 80; refine (l11Flow_any _ _).mono ?_; rintro e w' ⟨rfl, rfl⟩) | (go_at_call 56; refine (l00In_any _ _ _ _).mono ?_; rintro e w' ⟨rfl, rfl⟩) | (go_at_call 81; refine (l11Joints_any _ _ l j _ k1 k2 k3 k4 (by simp) (by simp)).mono ?_; rintro e w' ⟨rfl, _, rfl⟩) | (go_at_call 82; refine (l11After_any _ _ x q T _ q1 q2 k5 k6 (by omega) (by simp)).mono ?_; rintro e w' ⟨rfl, _, rfl⟩))
        go_ret2
        exact ⟨by simp, below_drewN (by go_grown) _⟩
noncomputable def flowAtEndF (s : ByteArray) (l j x q : Int) : Int × Int := if ductB s l j x then (if inB q 0 100000 then (settleF q x (jointsF l j).toNat, 0) else (0, 2)) else (0, 1)
set_option maxHeartbeats 3200000 in
theorem FlowAtEnd_i (s : ByteArray) (l j x q : Int) (w : World) (hs : s.size ≤ maxLen) :
    Calls Try.prog 40 #[.agg #[.string s, .int .i64 l, .int .i64 j, .int .i64 x], .int .i64 q] w fun e w' => e = .returned (.tuple #[.int .i64 (flowAtEndF s l j x q).1, .int .i64 (flowAtEndF s l j x q).2]) ∧ Below w.heap.size w w' := by
  unfold flowAtEndF
  cases h0 : ductB s l j x
  · go_enter Try.func40, Try.ntmps40
    go_wp2_with fail
    refine (ValidDuct_i _ _ _ _ _ hs).mono ?_
    rintro e w1 ⟨rfl, hb1⟩
    obtain ⟨hc1, hf1⟩ := bcell hb1
    have q1_0 : w.heap.size < w1.heap.size := by have := hb1.size; simp at this; omega
    have be1 : Below w.heap.size w w1 := ((Below.refl w.heap.size w).alloc (by simp) _).trans (hb1.mono (by simp))
    have hbe := be1
    go_wp2_with fail
    go_ret2
    exact ⟨by simp, hbe⟩
  · obtain ⟨k1, k2, k3, k4, k5, k6⟩ := ductB_bd h0
    obtain ⟨k7, k8⟩ := joints_bd k1 k2 k3
    cases h1 : inB q 0 100000
    · go_enter Try.func40, Try.ntmps40
      go_wp2_with (go_at_call 84; refine (ductFlow_any _ _).mono ?_; rintro e w' ⟨rfl, rfl⟩)
      refine (ValidDuct_i _ _ _ _ _ hs).mono ?_
      rintro e w1 ⟨rfl, hb1⟩
      obtain ⟨hc1, hf1⟩ := bcell hb1
      have q1_0 : w.heap.size < w1.heap.size := by have := hb1.size; simp at this; omega
      have be1 : Below w.heap.size w w1 := ((Below.refl w.heap.size w).alloc (by simp) _).trans (hb1.mono (by simp))
      have hbe := be1
      go_wp2_with (go_at_call 84; refine (ductFlow_any _ _).mono ?_; rintro e w' ⟨rfl, rfl⟩)
      go_ret2
      exact ⟨by simp, hbe⟩
    · obtain ⟨q1, q2⟩ := inB_iff.1 h1
      have HJ := fun W => joints_ex s l j x W k1 k2 k3 k4
      obtain ⟨T, hT⟩ := Int.eq_ofNat_of_zero_le k7
      simp only [hT] at *
      have HH := Lib.hid HJ
      have hT2 : T ≤ 2000 := by omega
      clear HJ hT
      go_enter Try.func40, Try.ntmps40
      go_wp2_with (go_at_call 84; refine (ductFlow_any _ _).mono ?_; rintro e w' ⟨rfl, rfl⟩)
      refine (ValidDuct_i _ _ _ _ _ hs).mono ?_
      rintro e w1 ⟨rfl, hb1⟩
      obtain ⟨hc1, hf1⟩ := bcell hb1
      have q1_0 : w.heap.size < w1.heap.size := by have := hb1.size; simp at this; omega
      have be1 : Below w.heap.size w w1 := ((Below.refl w.heap.size w).alloc (by simp) _).trans (hb1.mono (by simp))
      have hbe := be1
      go_wp2_with (go_at_call 84; refine (ductFlow_any _ _).mono ?_; rintro e w' ⟨rfl, rfl⟩)
      go_region_with (first
        | (go_at_call 85; refine (HH.out _).mono ?_; rintro e w2 ⟨rfl, rfl⟩)
        | (go_at_call 86; refine (after_ex _ _ _ _ _ _ _ q1 q2 k5 k6 hT2).mono ?_; rintro e w3 ⟨rfl, _, rfl⟩))
      all_goals go_wp2
      all_goals go_ret2
      all_goals refine ⟨by simp, ?_⟩
      all_goals repeat' (first | exact hbe | refine below_drewN ?_ _ | refine Below.drew ?_ | refine Below.alloc ?_ ?_ _ | (simp; omega) | omega)
theorem FlowAtEnd_s (s : ByteArray) (l j x q : Int) (w : World) (hs : s.size ≤ maxLen) :
    Calls Try.prog 39 #[.agg #[.string s, .int .i64 l, .int .i64 j, .int .i64 x], .int .i64 q] w fun e w' => e = .returned (.tuple #[.int .i64 (flowAtEndF s l j x q).1, .int .i64 (flowAtEndF s l j x q).2]) ∧ Below w.heap.size w w' := by
  unfold flowAtEndF
  cases h0 : ductB s l j x
  · go_enter Try.func39, Try.ntmps39
    go_wp2_with (go_at_call 79; refine (l11Ok_any _ _ s l j x _ hs (by simp) (by simp) (by simp) (by simp)).mono ?_; rintro e w' ⟨rfl, _, rfl⟩)
    go_ret2
    exact ⟨by simp, below_drewN (by go_grown) _⟩
  · obtain ⟨k1, k2, k3, k4, k5, k6⟩ := ductB_bd h0
    obtain ⟨k7, k8⟩ := joints_bd k1 k2 k3
    cases h1 : inB q 0 100000
    · go_enter Try.func39, Try.ntmps39
      go_wp2_with (first | (go_at_call 79; refine (l11Ok_any _ _ s l j x _ hs (by simp) (by simp) (by simp) (by simp)).mono ?_; rintro e w' ⟨rfl, _, rfl⟩) | (go_at_call 80; refine (l11Flow_any _ _).mono ?_; rintro e w' ⟨rfl, rfl⟩))
      go_ret2
      exact ⟨by simp, below_drewN (by go_grown) _⟩
    · obtain ⟨q1, q2⟩ := inB_iff.1 h1
      have HJ := fun (W : World) (b o : Nat) => l11Joints_any b o l j W k1 k2 k3 k4
      obtain ⟨T, hT⟩ := Int.eq_ofNat_of_zero_le k7
      simp only [hT] at *
      have HH := Lib.hid HJ
      clear HJ hT
      go_enter Try.func39, Try.ntmps39
      go_wp2_with (first | (go_at_call 79; refine (l11Ok_any _ _ s l j x _ hs (by simp) (by simp) (by simp) (by simp)).mono ?_; rintro e w' ⟨rfl, _, rfl⟩) | (go_at_call 80; refine (l11Flow_any _ _).mono ?_; rintro e w' ⟨rfl, rfl⟩) | (go_at_call 81; refine (HH.out _ _ _ (by simp) (by simp)).mono ?_; rintro e w' ⟨rfl, _, rfl⟩) | (go_at_call 82; refine (l11After_any _ _ x q T _ q1 q2 k5 k6 (by omega) (by simp)).mono ?_; rintro e w' ⟨rfl, _, rfl⟩))
      go_ret2
      exact ⟨by simp, below_drewN (by go_grown) _⟩
theorem fnExactFlowAfter_walk (s : ByteArray) (hs : s.size ≤ maxLen) (l : Int) (_ : -9223372036854775808 ≤ l ∧ l ≤ 9223372036854775807) (j : Int) (_ : -9223372036854775808 ≤ j ∧ j ≤ 9223372036854775807) (x : Int) (_ : -9223372036854775808 ≤ x ∧ x ≤ 9223372036854775807) (a0 : Int) (_ : -9223372036854775808 ≤ a0 ∧ a0 ≤ 9223372036854775807) (a1 : Int) (_ : -9223372036854775808 ≤ a1 ∧ a1 ≤ 9223372036854775807) (w : World) :
    Calls Try.prog 10 #[.agg #[.string s, .int .i64 l, .int .i64 j, .int .i64 x], .int .i64 a0, .int .i64 a1] w fun e w' => e = .returned (.bool true) ∧ Below w.heap.size w w' := by
  by_cases h : (s.size : Int) ≤ 1048576
  · go_enter Try.func10, Try.ntmps10
    go_wp2_with fail
    refine (szDuct_yes _ _ _ _ _ _ (by omega) h).mono ?_
    rintro e w1 ⟨rfl, hb1⟩
    obtain ⟨hc1, hf1⟩ := bcell hb1
    have q1_0 : w.heap.size < w1.heap.size := by have := hb1.size; simp at this; omega
    have be1 : Below w.heap.size w w1 := ((Below.refl w.heap.size w).alloc (by simp) _).trans (hb1.mono (by simp))
    go_wp2_with fail
    refine (toDuct_any _ _ _ _ _).mono ?_
    rintro e w2 ⟨rfl, hb2⟩
    obtain ⟨hc2, hf2⟩ := bcell hb2
    have q2_0 : w.heap.size < w2.heap.size := by have := hb2.size; omega
    have be2 : Below w.heap.size w w2 := be1.trans (hb2.mono (by omega))
    go_wp2_with fail
    refine (FlowAfter_s _ _ _ _ _ _ _ hs).mono ?_
    rintro e w3 ⟨rfl, hb3⟩
    obtain ⟨hc3, hf3⟩ := bcell hb3
    have q3_0 : w.heap.size < w3.heap.size := by have := hb3.size; omega
    have be3 : Below w.heap.size w w3 := be2.trans (hb3.mono (by omega))
    go_wp2_with fail
    refine (toDuct_any _ _ _ _ _).mono ?_
    rintro e w4 ⟨rfl, hb4⟩
    obtain ⟨hc4, hf4⟩ := bcell hb4
    have q4_0 : w.heap.size < w4.heap.size := by have := hb4.size; omega
    have be4 : Below w.heap.size w w4 := be3.trans (hb4.mono (by omega))
    go_wp2_with fail
    refine (FlowAfter_i _ _ _ _ _ _ _ hs).mono ?_
    rintro e w5 ⟨rfl, hb5⟩
    obtain ⟨hc5, hf5⟩ := bcell hb5
    have q5_0 : w.heap.size < w5.heap.size := by have := hb5.size; omega
    have be5 : Below w.heap.size w w5 := be4.trans (hb5.mono (by omega))
    have hbe := be5
    go_wp2_with fail
    go_ret
    exact ⟨rfl, hbe⟩
  · go_enter Try.func10, Try.ntmps10
    go_wp2_with fail
    refine (szDuct_no _ _ _ _ _ _ (by omega) (by omega) hs (by omega)).mono ?_
    rintro e w1 ⟨rfl, hb1⟩
    obtain ⟨hc1, hf1⟩ := bcell hb1
    have q1_0 : w.heap.size < w1.heap.size := by have := hb1.size; simp at this; omega
    have be1 : Below w.heap.size w w1 := ((Below.refl w.heap.size w).alloc (by simp) _).trans (hb1.mono (by simp))
    have hbe := be1
    go_wp2_with fail
    go_ret
    exact ⟨rfl, hbe⟩
theorem fnExactFlowAtEnd_walk (s : ByteArray) (hs : s.size ≤ maxLen) (l : Int) (_ : -9223372036854775808 ≤ l ∧ l ≤ 9223372036854775807) (j : Int) (_ : -9223372036854775808 ≤ j ∧ j ≤ 9223372036854775807) (x : Int) (_ : -9223372036854775808 ≤ x ∧ x ≤ 9223372036854775807) (a0 : Int) (_ : -9223372036854775808 ≤ a0 ∧ a0 ≤ 9223372036854775807) (w : World) :
    Calls Try.prog 11 #[.agg #[.string s, .int .i64 l, .int .i64 j, .int .i64 x], .int .i64 a0] w fun e w' => e = .returned (.bool true) ∧ Below w.heap.size w w' := by
  by_cases h : (s.size : Int) ≤ 1048576
  · go_enter Try.func11, Try.ntmps11
    go_wp2_with fail
    refine (szDuct_yes _ _ _ _ _ _ (by omega) h).mono ?_
    rintro e w1 ⟨rfl, hb1⟩
    obtain ⟨hc1, hf1⟩ := bcell hb1
    have q1_0 : w.heap.size < w1.heap.size := by have := hb1.size; simp at this; omega
    have be1 : Below w.heap.size w w1 := ((Below.refl w.heap.size w).alloc (by simp) _).trans (hb1.mono (by simp))
    go_wp2_with fail
    refine (toDuct_any _ _ _ _ _).mono ?_
    rintro e w2 ⟨rfl, hb2⟩
    obtain ⟨hc2, hf2⟩ := bcell hb2
    have q2_0 : w.heap.size < w2.heap.size := by have := hb2.size; omega
    have be2 : Below w.heap.size w w2 := be1.trans (hb2.mono (by omega))
    go_wp2_with fail
    refine (FlowAtEnd_s _ _ _ _ _ _ hs).mono ?_
    rintro e w3 ⟨rfl, hb3⟩
    obtain ⟨hc3, hf3⟩ := bcell hb3
    have q3_0 : w.heap.size < w3.heap.size := by have := hb3.size; omega
    have be3 : Below w.heap.size w w3 := be2.trans (hb3.mono (by omega))
    go_wp2_with fail
    refine (toDuct_any _ _ _ _ _).mono ?_
    rintro e w4 ⟨rfl, hb4⟩
    obtain ⟨hc4, hf4⟩ := bcell hb4
    have q4_0 : w.heap.size < w4.heap.size := by have := hb4.size; omega
    have be4 : Below w.heap.size w w4 := be3.trans (hb4.mono (by omega))
    go_wp2_with fail
    refine (FlowAtEnd_i _ _ _ _ _ _ hs).mono ?_
    rintro e w5 ⟨rfl, hb5⟩
    obtain ⟨hc5, hf5⟩ := bcell hb5
    have q5_0 : w.heap.size < w5.heap.size := by have := hb5.size; omega
    have be5 : Below w.heap.size w w5 := be4.trans (hb5.mono (by omega))
    have hbe := be5
    go_wp2_with fail
    go_ret
    exact ⟨rfl, hbe⟩
  · go_enter Try.func11, Try.ntmps11
    go_wp2_with fail
    refine (szDuct_no _ _ _ _ _ _ (by omega) (by omega) hs (by omega)).mono ?_
    rintro e w1 ⟨rfl, hb1⟩
    obtain ⟨hc1, hf1⟩ := bcell hb1
    have q1_0 : w.heap.size < w1.heap.size := by have := hb1.size; simp at this; omega
    have be1 : Below w.heap.size w w1 := ((Below.refl w.heap.size w).alloc (by simp) _).trans (hb1.mono (by simp))
    have hbe := be1
    go_wp2_with fail
    go_ret
    exact ⟨rfl, hbe⟩
end Go.Proofs.Ytiiidloobfimcaa
