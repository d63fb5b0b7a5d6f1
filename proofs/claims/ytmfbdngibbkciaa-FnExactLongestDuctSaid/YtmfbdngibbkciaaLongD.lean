/- The longest duct and the least flow for a need: the program's and the reference's; and the walks of the laws. Conditions: the bounds that each theorem names. -/
import Derived.Test.YtmfbdngibbkciaaDuctF
import Derived.Test.YtmfbdngibbkciaaLater
import Derived.Test.YtmfbdngibbkciaaUp
import Derived.Test.YtmfbdngibbkciaaFirst
import Derived.StillTailTactics
import Derived.RegionTactic
import Derived.BigRegion
import Derived.Outline
namespace Go.Proofs.Ytmfbdngibbkciaa
open Go.RowKit
open Pl
/-- What arrives at the end. -/
def arriveF (l j x q : Int) : Int := settleF q x (jointsF l j).toNat
theorem needed1_any (s : ByteArray) (l j x q n : Int) (bd bn : Nat) (w : World) (h1 : 1 ≤ l) (h2 : l ≤ 2000) (h3 : 5 ≤ j) (h4 : j ≤ 50) (h5 : 0 ≤ x) (h6 : x ≤ 100000) (hq1 : 0 ≤ q) (hq2 : q ≤ 100000)
    (c0 : w.cell? ⟨bd, 0, none⟩ = some (.string s)) (c1 : w.cell? ⟨bd, 1, none⟩ = some (.int .i64 l)) (c2 : w.cell? ⟨bd, 2, none⟩ = some (.int .i64 j)) (c3 : w.cell? ⟨bd, 3, none⟩ = some (.int .i64 x)) (cn : w.cell? ⟨bn, 0, none⟩ = some (.int .i64 n)) :
    Calls Try.prog 86 #[.int .i64 q, .pointer (some ⟨bd, 0, none⟩), .pointer (some ⟨bn, 0, none⟩)] w fun e w' => e = .returned (.bool (decide (arriveF l j x q ≥ n))) ∧ Below w.heap.size w w' := by
  obtain ⟨k7, k8⟩ := joints_bd h1 h2 h3
  obtain ⟨T, hT⟩ := Int.eq_ofNat_of_zero_le k7
  have HJ := Lib.hid (fun W => joints_any s l j x W h1 h2 h3 h4)
  have hT2 : T ≤ 2000 := by omega
  have HA := Lib.hid (fun W => after_any s l j x q T W hq1 hq2 h5 h6 hT2)
  unfold arriveF
  rw [hT] at HJ ⊢
  rw [Int.toNat_natCast]
  clear hT k7 k8
  generalize settleF q x T = y at *
  have e0 := fun L : Later w => L.cell c0
  have e1 := fun L : Later w => L.cell c1
  have e2 := fun L : Later w => L.cell c2
  have e3 := fun L : Later w => L.cell c3
  have en := fun L : Later w => L.cell cn
  go_enter Try.func86, Try.ntmps86
  go_wp2
  refine wp_region_later (by kernel_rfl) (by kernel_rfl) ?_
  repeat (go_big_quiet_step ((first | (go_at_call 77; first | (with_reducible exact later_b (HJ.out _)) | (with_reducible exact later_d (HJ.out _)) | (with_reducible exact later_s (HJ.out _))) | (go_at_call 76; first | (with_reducible exact later_b (HA.out _)) | (with_reducible exact later_d (HA.out _)) | (with_reducible exact later_s (HA.out _))))))
  refine wpQuiet_nil ?_
  intro _ hw'
  obtain ⟨LL, hw''⟩ := hw'
  subst hw''
  go_wp2
  go_ret
  exact ⟨rfl, LL.below⟩
theorem divR_add_mul {a b : Int} (hb : 0 < b) (ha : 0 ≤ a) (m : Nat) : divR (a + (m : Int) * b) b = divR a b + m := by
  have h0 : 0 ≤ (m : Int) * b := mul_ge (by omega) (by omega)
  rw [divR_nonneg (by omega), divR_nonneg ha]
  rw [show 2 * (a + (m : Int) * b) + b = (2 * a + b) + (m : Int) * (2 * b) by rw [Int.mul_left_comm]; omega]
  exact Int.add_mul_ediv_right _ _ (by omega)
theorem settle_mono1 {q q' x : Int} (h0 : 0 ≤ q) (h : q ≤ q') (h3 : 0 ≤ x) (h4 : x ≤ 100000) : q - divR (q * x) 1000000 ≤ q' - divR (q' * x) 1000000 := by
  obtain ⟨m, rfl⟩ : ∃ m : Nat, q' = q + m := ⟨(q' - q).toNat, by omega⟩
  have hx : (m : Int) * x ≤ (m : Int) * 1000000 := Int.mul_le_mul_of_nonneg_left (by omega) (by omega)
  have h1 := divR_mono (a := (q + m) * x) (a' := q * x + (m : Int) * 1000000) (b := 1000000) (by omega) (by rw [Int.add_mul]; omega)
  rw [divR_add_mul (by omega) (mul_ge h0 h3)] at h1
  omega
theorem settle_mono {q q' x : Int} (h0 : 0 ≤ q) (h : q ≤ q') (h2 : q' ≤ 1000000) (h3 : 0 ≤ x) (h4 : x ≤ 100000) : ∀ n, settleF q x n ≤ settleF q' x n
  | 0 => h
  | n + 1 => by
    obtain ⟨a, _⟩ := settle_bd (d := q) (s := x) h0 (by omega) h3 (by omega) n
    exact settle_mono1 a (settle_mono h0 h h2 h3 h4 n) h3 h4
theorem settle_down {q x : Int} (h0 : 0 ≤ q) (h2 : q ≤ 1000000) (h3 : 0 ≤ x) (h4 : x ≤ 100000) (n : Nat) : settleF q x (n + 1) ≤ settleF q x n := by
  obtain ⟨a, b⟩ := settle_bd (d := q) (s := x) h0 h2 h3 (by omega) n
  obtain ⟨c, _⟩ := settle_step a b h3 (by omega)
  show settleF q x n - _ ≤ _
  omega
theorem settle_le {q x : Int} (h0 : 0 ≤ q) (h2 : q ≤ 1000000) (h3 : 0 ≤ x) (h4 : x ≤ 100000) : ∀ n, settleF q x n ≤ q
  | 0 => Int.le_refl _
  | n + 1 => Int.le_trans (settle_down h0 h2 h3 h4 n) (settle_le h0 h2 h3 h4 n)
def needK (l j x n : Int) : Int := firstFrom (fun q => decide (arriveF l j x q ≥ n)) 0 100001
theorem needK_spec (l j x n : Int) (h3 : 0 ≤ x) (h4 : x ≤ 100000) : 0 ≤ needK l j x n ∧ needK l j x n ≤ 100001 ∧ ∀ q, 0 ≤ q → q ≤ 100000 → (needK l j x n ≤ q ↔ arriveF l j x q ≥ n) := by
  unfold needK
  generalize hN : (100001 : Nat) = N
  obtain ⟨a, b, c, e⟩ := firstFrom_spec (fun q => decide (arriveF l j x q ≥ n)) N 0
  refine ⟨a, by omega, fun q h1 h2 => ⟨fun h => ?_, fun h => ?_⟩⟩
  · have h5 := of_decide_eq_true (e (by omega))
    have h6 : arriveF l j x (firstFrom (fun q => decide (arriveF l j x q ≥ n)) 0 N) ≤ arriveF l j x q := settle_mono a h (by omega) h3 h4 _
    omega
  · by_cases hh : firstFrom (fun q => decide (arriveF l j x q ≥ n)) 0 N ≤ q
    · exact hh
    · have := of_decide_eq_false (c q h1 (by omega))
      omega
noncomputable def neededF (s : ByteArray) (l j x n : Int) : Int × Int := if ductB s l j x then (if inB n 0 100000 then (cond (decide (needK l j x n ≤ 100000)) (needK l j x n) 0, cond (decide (needK l j x n ≤ 100000)) 0 3) else (0, 2)) else (0, 1)
theorem boxD (w : World) (a b c d e : Value) (ta tb : TypeId) :
    let W := (w.alloc (.cells #[a, b, c, d] ta)).alloc (.cells #[e] tb)
    W.cell? ⟨w.heap.size, 0, none⟩ = some a ∧ W.cell? ⟨w.heap.size, 1, none⟩ = some b ∧ W.cell? ⟨w.heap.size, 2, none⟩ = some c ∧ W.cell? ⟨w.heap.size, 3, none⟩ = some d ∧ W.cell? ⟨w.heap.size + 1, 0, none⟩ = some e := by
  refine ⟨?_, ?_, ?_, ?_, ?_⟩ <;> simp
set_option maxHeartbeats 1600000 in
theorem FlowNeeded_i (s : ByteArray) (l j x n : Int) (w : World) (hs : s.size ≤ maxLen) :
    Calls Try.prog 41 #[.agg #[.string s, .int .i64 l, .int .i64 j, .int .i64 x], .int .i64 n] w fun e w' => e = .returned (.tuple #[.int .i64 (neededF s l j x n).1, .int .i64 (neededF s l j x n).2]) ∧ Below w.heap.size w w' := by
  unfold neededF
  cases h0 : ductB s l j x
  · go_enter Try.func41, Try.ntmps41
    go_wp2_with fail
    refine (ValidDuct_i _ _ _ _ _ hs).mono ?_
    rintro e w1 ⟨rfl, hb1⟩
    obtain ⟨hc1, hf1⟩ := bcell hb1
    have q1_1 : w.heap.size + 1 < w1.heap.size := by have := hb1.size; simp at this; omega
    have q1_0 : w.heap.size < w1.heap.size := by have := hb1.size; simp at this; omega
    have be1 : Below w.heap.size w w1 := (((Below.refl w.heap.size w).alloc (by simp) _).alloc (by simp) _).trans (hb1.mono (by simp <;> omega))
    have hbe := be1
    go_wp2_with fail
    go_ret2
    exact ⟨by simp, hbe⟩
  · obtain ⟨k1, k2, k3, k4, k5, k6⟩ := ductB_bd h0
    cases h1 : inB n 0 100000
    · go_enter Try.func41, Try.ntmps41
      go_wp2_with (go_at_call 75; refine (ductFlow_any _ _).mono ?_; rintro e w' ⟨rfl, rfl⟩)
      refine (ValidDuct_i _ _ _ _ _ hs).mono ?_
      rintro e w1 ⟨rfl, hb1⟩
      obtain ⟨hc1, hf1⟩ := bcell hb1
      have q1_1 : w.heap.size + 1 < w1.heap.size := by have := hb1.size; simp at this; omega
      have q1_0 : w.heap.size < w1.heap.size := by have := hb1.size; simp at this; omega
      have be1 : Below w.heap.size w w1 := (((Below.refl w.heap.size w).alloc (by simp) _).alloc (by simp) _).trans (hb1.mono (by simp <;> omega))
      have hbe := be1
      go_wp2_with (go_at_call 75; refine (ductFlow_any _ _).mono ?_; rintro e w' ⟨rfl, rfl⟩)
      go_ret2
      exact ⟨by simp, hbe⟩
    · obtain ⟨n1, n2⟩ := inB_iff.1 h1
      obtain ⟨hk1, hk2, hk3⟩ := needK_spec l j x n k5 k6
      simp only [if_true]
      generalize needK l j x n = k at *
      have H3 := Lib.hid hk3
      clear hk3
      go_enter Try.func41, Try.ntmps41
      go_wp2_with (go_at_call 75; refine (ductFlow_any _ _).mono ?_; rintro e w' ⟨rfl, rfl⟩)
      refine (ValidDuct_i _ _ _ _ _ hs).mono ?_
      rintro e w1 ⟨rfl, hb1⟩
      obtain ⟨hc1, hf1⟩ := bcell hb1
      have q1_1 : w.heap.size + 1 < w1.heap.size := by have := hb1.size; simp at this; omega
      have q1_0 : w.heap.size < w1.heap.size := by have := hb1.size; simp at this; omega
      have be1 : Below w.heap.size w w1 := (((Below.refl w.heap.size w).alloc (by simp) _).alloc (by simp) _).trans (hb1.mono (by simp <;> omega))
      have hbe := be1
      go_wp2_with (go_at_call 75; refine (ductFlow_any _ _).mono ?_; rintro e w' ⟨rfl, rfl⟩)
      refine (firstIn_any 86 _ (enters_of Try.func86 (by kernel_rfl) rfl) 0 100000 k (by omega) (by omega) hk1 hk2 _ ?_).mono ?_
      · intro W q hb hq1 hq2
        obtain ⟨hcW, _⟩ := bcell hb
        obtain ⟨b0, b1, b2, b3, b4⟩ := boxD w (.string s) (.int .i64 l) (.int .i64 j) (.int .i64 x) (.int .i64 n) 48 2
        have c0 := ((hcW _ 0 (by omega)).trans (hc1 w.heap.size 0 (by simp <;> omega))).trans b0
        have c1 := ((hcW _ 1 (by omega)).trans (hc1 w.heap.size 1 (by simp <;> omega))).trans b1
        have c2 := ((hcW _ 2 (by omega)).trans (hc1 w.heap.size 2 (by simp <;> omega))).trans b2
        have c3 := ((hcW _ 3 (by omega)).trans (hc1 w.heap.size 3 (by simp <;> omega))).trans b3
        have c4 := ((hcW _ 0 (by omega)).trans (hc1 (w.heap.size + 1) 0 (by simp <;> omega))).trans b4
        have e : decide (k ≤ q) = decide (arriveF l j x q ≥ n) := decide_eq_decide.2 (H3.out q hq1 hq2)
        show Calls _ _ #[.int .i64 q, .pointer (some ⟨w.heap.size, 0, none⟩), .pointer (some ⟨w.heap.size + 1, 0, none⟩)] _ (fun e' w' => e' = .returned (.bool (decide (k ≤ q))) ∧ _)
        rw [e]
        exact needed1_any s l j x q n _ _ W k1 k2 k3 k4 k5 k6 hq1 hq2 c0 c1 c2 c3 c4
      · rintro e w' ⟨rfl, hb⟩
        go_wp2_with (go_at_call 84; refine (orNotFound_any _ _ _).mono ?_; rintro e w' ⟨rfl, rfl⟩)
        go_ret2
        exact ⟨by simp, hbe.trans (hb.mono (by omega))⟩
set_option maxHeartbeats 1600000 in
theorem FlowNeeded_s (s : ByteArray) (l j x n : Int) (w : World) (hs : s.size ≤ maxLen) :
    Calls Try.prog 40 #[.agg #[.string s, .int .i64 l, .int .i64 j, .int .i64 x], .int .i64 n] w fun e w' => e = .returned (.tuple #[.int .i64 (neededF s l j x n).1, .int .i64 (neededF s l j x n).2]) ∧ Below w.heap.size w w' := by
  obtain ⟨R, hR⟩ : ∃ R, R = neededF s l j x n := ⟨_, rfl⟩
  rw [← hR]
  have HR := Lib.hid hR
  clear hR
  cases h0 : ductB s l j x
  · go_enter Try.func40, Try.ntmps40
    go_wp2_with (go_at_call 70; refine (l11Ok_any _ _ s l j x _ hs (by simp) (by simp) (by simp) (by simp)).mono ?_; rintro e w' ⟨rfl, _, rfl⟩)
    go_ret2
    exact ⟨ret_ii (by rw [HR.out]; simp [neededF, h0]), below_drewN (by go_grown) _⟩
  · obtain ⟨k1, k2, k3, k4, k5, k6⟩ := ductB_bd h0
    obtain ⟨k7, k8⟩ := joints_bd k1 k2 k3
    cases h1 : inB n 0 100000
    · go_enter Try.func40, Try.ntmps40
      go_wp2_with (first | (go_at_call 70; refine (l11Ok_any _ _ s l j x _ hs (by simp) (by simp) (by simp) (by simp)).mono ?_; rintro e w' ⟨rfl, _, rfl⟩) | (go_at_call 71; refine (l11Flow_any _ _).mono ?_; rintro e w' ⟨rfl, rfl⟩))
      go_ret2
      exact ⟨ret_ii (by rw [HR.out]; simp [neededF, h0, h1]), below_drewN (by go_grown) _⟩
    · obtain ⟨n1, n2⟩ := inB_iff.1 h1
      obtain ⟨hk1, hk2, hk3⟩ := needK_spec l j x n k5 k6
      have HF : Hid (neededF s l j x n = (cond (decide (needK l j x n ≤ 100000)) (needK l j x n) 0, cond (decide (needK l j x n ≤ 100000)) 0 3)) := Lib.hid (by simp [neededF, h0, h1])
      have hle : ∀ q, 0 ≤ q → q ≤ 100000 → arriveF l j x q ≤ q := fun q a b => settle_le a (by omega) k5 k6 _
      have hnk : n ≤ needK l j x n := by
        by_cases h : needK l j x n ≤ 100000
        · have h1 := (hk3 (needK l j x n) hk1 h).1 (Int.le_refl _)
          have h2 := hle _ hk1 h
          omega
        · omega
      generalize needK l j x n = k at *
      have HJ := fun (W : World) (b o : Nat) => l11Joints_any b o l j W k1 k2 k3 k4
      obtain ⟨T, hT⟩ := Int.eq_ofNat_of_zero_le k7
      have hT2 : T ≤ 2000 := by omega
      unfold arriveF at hk3
      rw [hT] at HJ
      rw [hT, Int.toNat_natCast] at hk3
      have HH := Lib.hid HJ
      have H3 := Lib.hid hk3
      clear HJ hT hk3 hle k7 k8
      have H3' : Hid (k ≤ 100000 ↔ settleF 100000 x T ≥ n) := Lib.hid (H3.out 100000 (by omega) (by omega))
      go_enter Try.func40, Try.ntmps40
      go_wp2_with fail
      refine (dB (l11Ok_any _ _ s l j x _ hs (by simp) (by simp) (by simp) (by simp))).mono ?_
      rintro e w1 ⟨rfl, hb1⟩
      obtain ⟨hc1, -⟩ := bcell hb1
      have d1 := hc1 w.heap.size 1 (by simp)
      have d2 := hc1 w.heap.size 2 (by simp)
      have d3 := hc1 w.heap.size 3 (by simp)
      simp at d1 d2 d3
      have be : Below w.heap.size w w1 := ((Below.refl w.heap.size w).alloc (by simp) _).trans (hb1.mono (by simp))
      have hz1 : w.heap.size < w1.heap.size := by have := hb1.size; simp at this; omega
      clear hb1 hc1
      go_wp2_with (go_at_call 71; refine (l11Flow_any _ _).mono ?_; rintro e w' ⟨rfl, rfl⟩)
      refine (dB (HH.out _ _ _ (by first | exact d1 | simpa using d1) (by first | exact d2 | simpa using d2))).mono ?_
      rintro e w2 ⟨rfl, hb2⟩
      have d3' := cell_later hb2 d3
      have be2 := be.trans (hb2.mono (by omega))
      have hz2 : w.heap.size < w2.heap.size := by have := hb2.size; omega
      clear d1 d2 d3 hb2 be
      go_wp2_with fail
      refine (dB (l11After_any _ _ x 100000 T _ (by omega) (by omega) k5 k6 hT2 (by first | exact d3' | simpa using d3'))).mono ?_
      rintro e w3 ⟨rfl, hb3⟩
      have d3 := cell_later hb3 d3'
      have be3 := be2.trans (hb3.mono (by omega))
      have hz3 : w.heap.size < w3.heap.size := by have := hb3.size; omega
      clear d3' hb3 be2
      by_cases hk : k ≤ 100000
      rotate_left
      · have hlt : settleF 100000 x T < n := by
          by_cases h : settleF 100000 x T < n
          · exact h
          · exact absurd (H3'.out.2 (by omega)) hk
        go_wp2
        go_ret2
        exact ⟨ret_ii (by rw [HR.out, HF.out, decide_eq_false (show ¬ k ≤ 100000 by omega)]; rfl), be3⟩
      have hge : n ≤ settleF 100000 x T := by have := H3'.out.1 hk; omega
      go_wp2
      go_loopw [7, 8] (fun lo hi wr => ∃ a b : Int, lo = .int .i64 a ∧ hi = .int .i64 b ∧ n ≤ a ∧ a ≤ k ∧ k ≤ b ∧ b ≤ 100000 ∧ Below w3.heap.size w3 wr) (fun lo hi _ => (intOf hi - intOf lo).toNat)
      case atStart => exact ⟨n, 100000, rfl, rfl, by omega, hnk, hk, by omega, Below.refl _ _⟩
      case round =>
        obtain ⟨a, b, rfl, rfl, a1, a2, b1, b2, hb⟩ := hrel
        by_cases hlt : a < b
        · have s0 : 0 ≤ a + b := by omega
          obtain ⟨m, hm⟩ : ∃ m, (a + b) / 2 = m := ⟨_, rfl⟩
          have m1 : a ≤ m := by omega
          have m2 : m < b := by omega
          have h3' := H3.out m (by omega) (by omega)
          have dr := cell_later hb d3
          have HA := Lib.hid (dB (l11After_any w.heap.size 0 x m T wr (by omega) (by omega) k5 k6 hT2 (by first | exact dr | simpa using dr)))
          generalize settleF m x T = y at *
          by_cases hmk : k ≤ m
          · have hc : n ≤ y := by have := h3'.1 hmk; omega
            clear h3'
            go_wp2_with (go_at_call 73; refine HA.out.mono ?_; rintro e w' ⟨rfl, hb4⟩)
            go_roundw
            case rel => exact ⟨a, m, rfl, by go_num, by omega, by omega, by omega, by omega, hb.trans (hb4.mono hb.size)⟩
            case measure => simp [intOf]; omega
          · have hc : y < n := by
              by_cases e : n ≤ y
              · exact absurd (h3'.2 e) hmk
              · omega
            clear h3'
            go_wp2_with (go_at_call 73; refine HA.out.mono ?_; rintro e w' ⟨rfl, hb4⟩)
            go_roundw
            case rel => exact ⟨m + 1, b, by go_num, rfl, by omega, by omega, by omega, by omega, hb.trans (hb4.mono hb.size)⟩
            case measure => simp [intOf]; omega
        · obtain rfl : b = k := by omega
          obtain rfl : a = b := by omega
          go_wp2
          go_ret2
          exact ⟨ret_ii (by rw [HR.out, HF.out, decide_eq_true hk]; rfl), be3.trans (hb.mono (by omega))⟩
theorem fnExactFlowNeeded_walk (s : ByteArray) (hs : s.size ≤ maxLen) (l : Int) (_ : -9223372036854775808 ≤ l ∧ l ≤ 9223372036854775807) (j : Int) (_ : -9223372036854775808 ≤ j ∧ j ≤ 9223372036854775807) (x : Int) (_ : -9223372036854775808 ≤ x ∧ x ≤ 9223372036854775807) (a0 : Int) (_ : -9223372036854775808 ≤ a0 ∧ a0 ≤ 9223372036854775807) (w : World) :
    Calls Try.prog 11 #[.agg #[.string s, .int .i64 l, .int .i64 j, .int .i64 x], .int .i64 a0] w fun e w' => e = .returned (.bool true) ∧ Below w.heap.size w w' := by
  by_cases h : (s.size : Int) ≤ 1048576
  · go_enter Try.func11, Try.ntmps11
    go_wp2_with fail
    refine (szDuct_yes _ _ _ _ _ _ (by omega) h).mono ?_
    rintro e w1 ⟨rfl, hb1⟩
    obtain ⟨hc1, hf1⟩ := bcell hb1
    have q1_0 : w.heap.size < w1.heap.size := by have := hb1.size; simp at this; omega
    have be1 : Below w.heap.size w w1 := ((Below.refl w.heap.size w).alloc (by simp) _).trans (hb1.mono (by simp))
    go_wp2_with fail
    refine (toDuct_any _ _ _ _ _).mono ?_
    rintro e w2 ⟨rfl, hb2⟩
    obtain ⟨hc2, hf2⟩ := bcell hb2
    have q2_0 : w.heap.size < w2.heap.size := by have := hb2.size; omega
    have be2 : Below w.heap.size w w2 := be1.trans (hb2.mono (by omega))
    go_wp2_with fail
    refine (FlowNeeded_s _ _ _ _ _ _ hs).mono ?_
    rintro e w3 ⟨rfl, hb3⟩
    obtain ⟨hc3, hf3⟩ := bcell hb3
    have q3_0 : w.heap.size < w3.heap.size := by have := hb3.size; omega
    have be3 : Below w.heap.size w w3 := be2.trans (hb3.mono (by omega))
    go_wp2_with fail
    refine (toDuct_any _ _ _ _ _).mono ?_
    rintro e w4 ⟨rfl, hb4⟩
    obtain ⟨hc4, hf4⟩ := bcell hb4
    have q4_0 : w.heap.size < w4.heap.size := by have := hb4.size; omega
    have be4 : Below w.heap.size w w4 := be3.trans (hb4.mono (by omega))
    go_wp2_with fail
    refine (FlowNeeded_i _ _ _ _ _ _ hs).mono ?_
    rintro e w5 ⟨rfl, hb5⟩
    obtain ⟨hc5, hf5⟩ := bcell hb5
    have q5_0 : w.heap.size < w5.heap.size := by have := hb5.size; omega
    have be5 : Below w.heap.size w w5 := be4.trans (hb5.mono (by omega))
    have hbe := be5
    go_wp2_with fail
    go_ret
    exact ⟨rfl, hbe⟩
  · go_enter Try.func11, Try.ntmps11
    go_wp2_with fail
    refine (szDuct_no _ _ _ _ _ _ (by omega) (by omega) hs (by omega)).mono ?_
    rintro e w1 ⟨rfl, hb1⟩
    obtain ⟨hc1, hf1⟩ := bcell hb1
    have q1_0 : w.heap.size < w1.heap.size := by have := hb1.size; simp at this; omega
    have be1 : Below w.heap.size w w1 := ((Below.refl w.heap.size w).alloc (by simp) _).trans (hb1.mono (by simp))
    have hbe := be1
    go_wp2_with fail
    go_ret
    exact ⟨rfl, hbe⟩
/-- How many joints a duct may have for a need. -/
theorem eqbB {P : Program} {f : FuncId} {args : World → Array Value} {b b' : Bool} {p : Prop} (h : ∀ w, p → Calls P f (args w) w fun e w' => e = .returned (.bool b) ∧ Below w.heap.size w w') (hb : b = b') (hp : p) (w : World) :
    Calls P f (args w) w fun e w' => e = .returned (.bool b') ∧ Below w.heap.size w w' := by rw [← hb]; exact h w hp
theorem eqi {P : Program} {f : FuncId} {args : World → Array Value} {a b : Int} (h : ∀ w, Calls P f (args w) w fun e w' => e = .returned (.int .i64 a) ∧ w = w') (hb : a = b) (w : World) :
    Calls P f (args w) w fun e w' => e = .returned (.int .i64 b) ∧ w = w' := by rw [← hb]; exact h w
def longP (x q n : Int) (k : Nat) : Bool := decide (n ≤ settleF q x (k + 1))
theorem long_stop {x q n : Int} (h0 : 0 ≤ q) (h2 : q ≤ 1000000) (h3 : 0 ≤ x) (h4 : x ≤ 100000) (hn : n ≤ q) (N : Nat) : ∃ m, m ≤ N ∧ (∀ k, k ≤ m → n ≤ settleF q x k) ∧ (∀ k, m < k → k ≤ N → settleF q x k < n) := by
  obtain ⟨m, a, b, c⟩ := first_stop (longP x q n) N
  refine ⟨m, a, fun k hk => ?_, fun k hk hN => ?_⟩
  · match k, hk with
    | 0, _ => exact hn
    | k + 1, hk => exact of_decide_eq_true (b k (by omega))
  · have e := of_decide_eq_false (c (by omega))
    have dn : ∀ d : Nat, settleF q x (m + 1 + d) ≤ settleF q x (m + 1) := by
      intro d
      induction d with
      | zero => exact Int.le_refl _
      | succ d ih => exact Int.le_trans (settle_down h0 h2 h3 h4 (m + 1 + d)) ih
    have := dn (k - (m + 1))
    rw [show m + 1 + (k - (m + 1)) = k by omega] at this
    omega
/-- The length of a duct of m joints, at most 2000. -/
def lenOf (j m : Int) : Int := if (m + 1) * j < 2000 then (m + 1) * j else 2000
theorem lenOf_mn (j m : Int) : lenOf j m = mn 2000 ((m + 1) * j) := by unfold lenOf mn; split <;> split <;> omega
theorem joints2000 {j : Int} (h3 : 5 ≤ j) (h4 : j ≤ 50) : ∃ N : Nat, (2000 - 1) / j = (N : Int) ∧ N ≤ 400 ∧ ∀ m : Int, (m + 1) * j < 2000 ↔ m < N := by
  have a : 0 ≤ (2000 - 1) / j := Int.ediv_nonneg (by omega) (by omega)
  obtain ⟨N, hN⟩ := Int.eq_ofNat_of_zero_le a
  have hle : ∀ m : Int, m + 1 ≤ (N : Int) ↔ (m + 1) * j ≤ 2000 - 1 := fun m => by rw [← hN]; exact Int.le_ediv_iff_mul_le (by omega)
  refine ⟨N, hN, ?_, fun m => ?_⟩
  · have h1 := (hle ((N : Int) - 1)).1 (by omega)
    have h2 : ((N : Int) - 1 + 1) * 5 ≤ ((N : Int) - 1 + 1) * j := Int.mul_le_mul_of_nonneg_left h3 (by omega)
    omega
  · have := hle m
    omega
/-- The number of joints of a duct of such a length. -/
theorem joints_lenOf {j m : Int} (h3 : 5 ≤ j) {N : Nat} (hN : (2000 - 1) / j = (N : Int)) (hmN : m ≤ N) (hlt : ∀ m : Int, (m + 1) * j < 2000 ↔ m < N) : (lenOf j m - 1) / j = m := by
  unfold lenOf
  split
  · have e : (m + 1) * j - 1 = (j - 1) + m * j := by rw [Int.add_mul]; omega
    rw [e, Int.add_mul_ediv_right _ _ (by omega), Int.ediv_eq_zero_of_lt (by omega) (by omega)]; omega
  · rename_i h
    have : ¬ m < N := fun h' => h ((hlt m).2 h')
    rw [hN]; omega
theorem lenOf_bd {j m : Int} (h3 : 5 ≤ j) (hm : 0 ≤ m) : 1 ≤ lenOf j m ∧ lenOf j m ≤ 2000 := by
  unfold lenOf
  have : 1 * 5 ≤ (m + 1) * j := mul_le (by omega) (by omega) (by omega) h3
  split <;> omega
/-- A duct one joint shorter. -/
theorem lenOf_pred {j m : Int} (h3 : 5 ≤ j) {N : Nat} (hN : (2000 - 1) / j = (N : Int)) (hmN : m ≤ N) (hlt : ∀ m : Int, (m + 1) * j < 2000 ↔ m < N) : (lenOf j m - 1) / j * j = lenOf j (m - 1) := by
  rw [joints_lenOf h3 hN hmN hlt]
  unfold lenOf
  rw [if_pos ((hlt (m - 1)).2 (by omega))]
  congr 1; omega
noncomputable def longM (j x q n : Int) : Nat := Classical.epsilon fun m => (m : Int) ≤ (2000 - 1) / j ∧ (∀ k, k ≤ m → n ≤ settleF q x k) ∧ (∀ k : Nat, m < k → (k : Int) ≤ (2000 - 1) / j → settleF q x k < n)
theorem longM_spec {j x q n : Int} (h0 : 0 ≤ q) (h2 : q ≤ 1000000) (h3 : 0 ≤ x) (h4 : x ≤ 100000) (hn : n ≤ q) {N : Nat} (hN : (2000 - 1) / j = (N : Int)) :
    longM j x q n ≤ N ∧ (∀ k, k ≤ longM j x q n → n ≤ settleF q x k) ∧ (∀ k : Nat, longM j x q n < k → k ≤ N → settleF q x k < n) := by
  obtain ⟨m, a, b, c⟩ := long_stop h0 h2 h3 h4 hn N
  have h := Classical.epsilon_spec (p := fun m : Nat => (m : Int) ≤ (2000 - 1) / j ∧ (∀ k, k ≤ m → n ≤ settleF q x k) ∧ (∀ k : Nat, m < k → (k : Int) ≤ (2000 - 1) / j → settleF q x k < n)) ⟨m, by rw [hN]; omega, b, fun k h1 h2 => c k h1 (by rw [hN] at h2; omega)⟩
  change ((longM j x q n : Nat) : Int) ≤ (2000 - 1) / j ∧ (∀ k, k ≤ longM j x q n → n ≤ settleF q x k) ∧ (∀ k : Nat, longM j x q n < k → (k : Int) ≤ (2000 - 1) / j → settleF q x k < n) at h
  generalize longM j x q n = M at *
  rw [hN] at h
  obtain ⟨h1, h2, h3⟩ := h
  exact ⟨Int.ofNat_le.1 h1, h2, fun k a b => h3 k a (by omega)⟩
noncomputable def longF (s : ByteArray) (l j x q n : Int) : Int × Int := if ductB s l j x then (if inB q 0 100000 && inB n 0 100000 then (if q < n then (0, 3) else (lenOf j (longM j x q n), 0)) else (0, 2)) else (0, 1)
set_option maxHeartbeats 1600000 in
theorem LongestDuct_i (s : ByteArray) (l j x q n : Int) (w : World) (hs : s.size ≤ maxLen) :
    Calls Try.prog 31 #[.agg #[.string s, .int .i64 l, .int .i64 j, .int .i64 x], .int .i64 q, .int .i64 n] w fun e w' => e = .returned (.tuple #[.int .i64 (longF s l j x q n).1, .int .i64 (longF s l j x q n).2]) ∧ Below w.heap.size w w' := by
  obtain ⟨R, hR⟩ : ∃ R, R = longF s l j x q n := ⟨_, rfl⟩
  rw [← hR]
  have HR := Lib.hid hR
  clear hR
  cases h0 : ductB s l j x
  · go_enter Try.func31, Try.ntmps31
    go_wp2_with fail
    refine (ValidDuct_i _ _ _ _ _ hs).mono ?_
    rintro e w1 ⟨rfl, hb1⟩
    obtain ⟨hc1, hf1⟩ := bcell hb1
    have q1_0 : w.heap.size < w1.heap.size := by have := hb1.size; simp at this; omega
    have be1 : Below w.heap.size w w1 := ((Below.refl w.heap.size w).alloc (by simp) _).trans (hb1.mono (by simp))
    have hbe := be1
    go_wp2_with fail
    go_ret2
    exact ⟨ret_ii (by rw [HR.out]; simp [longF, h0]), hbe⟩
  · obtain ⟨k1, k2, k3, k4, k5, k6⟩ := ductB_bd h0
    cases h1 : inB q 0 100000
    · go_enter Try.func31, Try.ntmps31
      go_wp2_with (go_at_call 75; refine (ductFlow_any _ _).mono ?_; rintro e w' ⟨rfl, rfl⟩)
      refine (ValidDuct_i _ _ _ _ _ hs).mono ?_
      rintro e w1 ⟨rfl, hb1⟩
      obtain ⟨hc1, hf1⟩ := bcell hb1
      have q1_0 : w.heap.size < w1.heap.size := by have := hb1.size; simp at this; omega
      have be1 : Below w.heap.size w w1 := ((Below.refl w.heap.size w).alloc (by simp) _).trans (hb1.mono (by simp))
      have hbe := be1
      go_wp2_with (go_at_call 75; refine (ductFlow_any _ _).mono ?_; rintro e w' ⟨rfl, rfl⟩)
      go_ret2
      exact ⟨ret_ii (by rw [HR.out]; simp [longF, h0, h1]), hbe⟩
    · obtain ⟨q1, q2⟩ := inB_iff.1 h1
      cases h2 : inB n 0 100000
      · go_enter Try.func31, Try.ntmps31
        go_wp2_with (go_at_call 75; refine (ductFlow_any _ _).mono ?_; rintro e w' ⟨rfl, rfl⟩)
        refine (ValidDuct_i _ _ _ _ _ hs).mono ?_
        rintro e w1 ⟨rfl, hb1⟩
        obtain ⟨hc1, hf1⟩ := bcell hb1
        have q1_0 : w.heap.size < w1.heap.size := by have := hb1.size; simp at this; omega
        have be1 : Below w.heap.size w w1 := ((Below.refl w.heap.size w).alloc (by simp) _).trans (hb1.mono (by simp))
        have hbe := be1
        go_wp2_with (go_at_call 75; refine (ductFlow_any _ _).mono ?_; rintro e w' ⟨rfl, rfl⟩)
        go_ret2
        exact ⟨ret_ii (by rw [HR.out]; simp [longF, h0, h1, h2]), hbe⟩
      · obtain ⟨n1, n2⟩ := inB_iff.1 h2
        by_cases hqn : q < n
        · go_enter Try.func31, Try.ntmps31
          go_wp2_with (go_at_call 75; refine (ductFlow_any _ _).mono ?_; rintro e w' ⟨rfl, rfl⟩)
          refine (ValidDuct_i _ _ _ _ _ hs).mono ?_
          rintro e w1 ⟨rfl, hb1⟩
          obtain ⟨hc1, hf1⟩ := bcell hb1
          have q1_0 : w.heap.size < w1.heap.size := by have := hb1.size; simp at this; omega
          have be1 : Below w.heap.size w w1 := ((Below.refl w.heap.size w).alloc (by simp) _).trans (hb1.mono (by simp))
          have hbe := be1
          go_wp2_with (go_at_call 75; refine (ductFlow_any _ _).mono ?_; rintro e w' ⟨rfl, rfl⟩)
          go_ret2
          exact ⟨ret_ii (by rw [HR.out]; simp [longF, h0, h1, h2, hqn]), hbe⟩
        · obtain ⟨N, hN, hN4, hlt⟩ := joints2000 k3 k4
          obtain ⟨m1, m2, m3⟩ := longM_spec (j := j) (x := x) (q := q) (n := n) q1 (by omega) k5 k6 (by omega) hN
          have HF : Hid (longF s l j x q n = (lenOf j (longM j x q n), 0)) := Lib.hid (by simp [longF, h0, h1, h2, hqn])
          generalize longM j x q n = m at *
          have HN := Lib.hid hN
          have HL := Lib.hid hlt
          have M2 := Lib.hid m2
          have M3 := Lib.hid m3
          have HC := Lib.hid (eqbB (ValidDuct_i s l j x) h0 hs)
          clear hN hlt m2 m3 h0
          go_enter Try.func31, Try.ntmps31
          go_wp2_with fail
          refine (HC.out _).mono ?_
          rintro e w1 ⟨rfl, hb1⟩
          obtain ⟨hc1, hf1⟩ := bcell hb1
          have be : Below w.heap.size w w1 := ((Below.refl w.heap.size w).alloc (by simp) _).trans (hb1.mono (by simp))
          have hz1 : w.heap.size < w1.heap.size := by have := hb1.size; simp at this; omega
          go_wp2_with (go_at_call 75; refine (ductFlow_any _ _).mono ?_; rintro e w' ⟨rfl, rfl⟩)
          have z0 : w1.cell? ⟨w.heap.size, 0, none⟩ = some (.string s) := by rw [hc1 _ _ (by simp)]; simp
          have z2 : w1.cell? ⟨w.heap.size, 2, none⟩ = some (.int .i64 j) := by rw [hc1 _ _ (by simp)]; simp
          have z3 : w1.cell? ⟨w.heap.size, 3, none⟩ = some (.int .i64 x) := by rw [hc1 _ _ (by simp)]; simp
          have zf : w1.frozen? ⟨w.heap.size, 1, none⟩ = false := by rw [hf1 _ _ (by simp)]; simp
          have z1 : (w1.setCell ⟨w.heap.size, 1, none⟩ (.int .i64 2000)).cell? ⟨w.heap.size, 1, none⟩ = some (.int .i64 (lenOf j N)) := by
            have : lenOf j N = 2000 := by unfold lenOf; rw [if_neg (fun h => by have := (HL.out N).1 h; omega)]
            rw [this]
            obtain ⟨y, hy⟩ : ∃ y, w1.cell? ⟨w.heap.size, 1, none⟩ = some y := ⟨.int .i64 l, by rw [hc1 _ _ (by simp)]; simp⟩
            exact setc_eq hy
          clear hc1 hf1 hb1
          go_loopg [32] N (fun kx _ wr => ∃ r : Nat, m ≤ r ∧ r ≤ N ∧ r ≤ kx ∧ Below w.heap.size w wr ∧ w.heap.size < wr.heap.size ∧ wr.cell? ⟨w.heap.size, 0, none⟩ = some (.string s) ∧ wr.cell? ⟨w.heap.size, 1, none⟩ = some (.int .i64 (lenOf j r)) ∧ wr.cell? ⟨w.heap.size, 2, none⟩ = some (.int .i64 j) ∧ wr.cell? ⟨w.heap.size, 3, none⟩ = some (.int .i64 x) ∧ wr.frozen? ⟨w.heap.size, 1, none⟩ = false)
          case atStart =>
            refine ⟨N, m1, Nat.le_refl _, Nat.le_refl _, be.setCell (by simp) _, by simpa using hz1, setc_ne z0 (by simp), z1, setc_ne z2 (by simp), setc_ne z3 (by simp), by simpa using zf⟩
          case round =>
            obtain ⟨r, r1, r2, r3, hb, hz, c0, c1, c2, c3, cf⟩ := hrel
            have ej : jointsF (lenOf j r) j = r := joints_lenOf k3 HN.out (by omega) HL.out
            obtain ⟨l1, l2⟩ := lenOf_bd (j := j) (m := r) k3 (by omega)
            have HJ := Lib.hid (fun W => joints_any s (lenOf j r) j x W l1 l2 k3 k4)
            rw [ej] at HJ
            have HA := Lib.hid (fun W => after_any s (lenOf j r) j x q r W q1 q2 k5 k6 (by omega))
            have e0 := fun L : Later wr => L.cell c0
            have e1 := fun L : Later wr => L.cell c1
            have e2 := fun L : Later wr => L.cell c2
            have e3 := fun L : Later wr => L.cell c3
            by_cases hrm : m < r
            · have hc := M3.out r hrm r2
              have HP := Lib.hid (lenOf_pred (m := r) k3 HN.out (by omega) HL.out)
              unfold jointsF at ej
              have hm0 : 0 ≤ (r : Int) * j := mul_ge (by omega) (by omega)
              have hm1 : (r : Int) * j ≤ 400 * 50 := mul_le (by omega) (by omega) (by omega) (by omega)
              rw [ej] at HP
              generalize lenOf j r = len at *
              generalize settleF q x r = y at *
              have EJ := Lib.hid ej
              clear ej
              go_wp2
              refine wp_region_later (by kernel_rfl) (by kernel_rfl) ?_
              repeat (go_big_quiet_step ((first | (go_at_call 77; first | (with_reducible exact later_b (HJ.out _)) | (with_reducible exact later_d (HJ.out _)) | (with_reducible exact later_s (HJ.out _))) | (go_at_call 76; first | (with_reducible exact later_b (HA.out _)) | (with_reducible exact later_d (HA.out _)) | (with_reducible exact later_s (HA.out _))))))
              refine wpQuiet_nil ?_
              intro _ hw'
              obtain ⟨LL, hw''⟩ := hw'
              subst hw''
              go_wp2
              have g1 := LL.cell c1
              have g2 := LL.cell c2
              have gf := (LL.below.frozen (p := ⟨w.heap.size, 1, none⟩) hz).trans cf
              have gb := hb.trans (LL.below.mono hb.size)
              have gz : w.heap.size < LL.world.heap.size := by have := LL.size; omega
              have ej := EJ.out
              go_region
              go_wp2
              go_roundg (r - 1)
              case measure => omega
              case rel =>
                obtain ⟨r', rfl⟩ : ∃ r', r = r' + 1 := ⟨r - 1, by omega⟩
                have hp := HP.out
                rw [show ((r' + 1 : Nat) : Int) - 1 = (r' : Int) by omega] at hp
                exact ⟨r', by omega, by omega, by omega, (gb.setCell (by simp) _).drew, by simpa using gz, by simpa using setc_ne (LL.cell c0) (by simp), by rw [← hp]; simpa using setc_eq g1, by simpa using setc_ne g2 (by simp), by simpa using setc_ne (LL.cell c3) (by simp), by simpa using gf⟩
            · obtain rfl : r = m := by omega
              have hc := M2.out r (Nat.le_refl _)
              have HP := Lib.hid HF.out
              generalize lenOf j r = len at *
              generalize settleF q x r = y at *
              have EJ := Lib.hid ej
              clear ej
              go_wp2
              refine wp_region_later (by kernel_rfl) (by kernel_rfl) ?_
              repeat (go_big_quiet_step ((first | (go_at_call 77; first | (with_reducible exact later_b (HJ.out _)) | (with_reducible exact later_d (HJ.out _)) | (with_reducible exact later_s (HJ.out _))) | (go_at_call 76; first | (with_reducible exact later_b (HA.out _)) | (with_reducible exact later_d (HA.out _)) | (with_reducible exact later_s (HA.out _))))))
              refine wpQuiet_nil ?_
              intro _ hw'
              obtain ⟨LL, hw''⟩ := hw'
              subst hw''
              have g1 := LL.cell c1
              have gb := hb.trans (LL.below.mono hb.size)
              go_wp2
              go_ret2
              exact ⟨ret_ii (by rw [HR.out, HP.out]), gb⟩
theorem lenOf_next {j k : Int} {N : Nat} (hlt : ∀ m : Int, (m + 1) * j < 2000 ↔ m < N) (hk : k < N) : mn 2000 (lenOf j k + j) = lenOf j (k + 1) := by
  rw [lenOf_mn j (k + 1)]
  unfold lenOf
  rw [if_pos ((hlt k).2 hk)]
  congr 1
  rw [Int.add_mul (k + 1) 1 j]; omega
set_option maxHeartbeats 1600000 in
theorem LongestDuct_s (s : ByteArray) (l j x q n : Int) (w : World) (hs : s.size ≤ maxLen) :
    Calls Try.prog 29 #[.agg #[.string s, .int .i64 l, .int .i64 j, .int .i64 x], .int .i64 q, .int .i64 n] w fun e w' => e = .returned (.tuple #[.int .i64 (longF s l j x q n).1, .int .i64 (longF s l j x q n).2]) ∧ Below w.heap.size w w' := by
  obtain ⟨R, hR⟩ : ∃ R, R = longF s l j x q n := ⟨_, rfl⟩
  rw [← hR]
  have HR := Lib.hid hR
  clear hR
  cases h0 : ductB s l j x
  · go_enter Try.func29, Try.ntmps29
    go_wp2_with fail
    refine (dB (l11Ok_any _ _ s l j x _ hs (by simp) (by simp) (by simp) (by simp))).mono ?_
    rintro e w1 ⟨rfl, hb1⟩
    obtain ⟨hc1, hf1⟩ := bcell hb1
    have q1_0 : w.heap.size < w1.heap.size := by have := hb1.size; simp at this; omega
    have be1 : Below w.heap.size w w1 := ((Below.refl w.heap.size w).alloc (by simp) _).trans (hb1.mono (by simp))
    have hbe := be1
    go_wp2_with fail
    go_ret2
    exact ⟨ret_ii (by rw [HR.out]; simp [longF, h0]), hbe⟩
  · obtain ⟨k1, k2, k3, k4, k5, k6⟩ := ductB_bd h0
    cases h1 : inB q 0 100000
    · go_enter Try.func29, Try.ntmps29
      go_wp2_with (go_at_call 71; refine (l11Flow_any _ _).mono ?_; rintro e w' ⟨rfl, rfl⟩)
      refine (dB (l11Ok_any _ _ s l j x _ hs (by simp) (by simp) (by simp) (by simp))).mono ?_
      rintro e w1 ⟨rfl, hb1⟩
      obtain ⟨hc1, hf1⟩ := bcell hb1
      have q1_0 : w.heap.size < w1.heap.size := by have := hb1.size; simp at this; omega
      have be1 : Below w.heap.size w w1 := ((Below.refl w.heap.size w).alloc (by simp) _).trans (hb1.mono (by simp))
      have hbe := be1
      go_wp2_with (go_at_call 71; refine (l11Flow_any _ _).mono ?_; rintro e w' ⟨rfl, rfl⟩)
      go_ret2
      exact ⟨ret_ii (by rw [HR.out]; simp [longF, h0, h1]), hbe⟩
    · obtain ⟨q1, q2⟩ := inB_iff.1 h1
      cases h2 : inB n 0 100000
      · go_enter Try.func29, Try.ntmps29
        go_wp2_with (go_at_call 71; refine (l11Flow_any _ _).mono ?_; rintro e w' ⟨rfl, rfl⟩)
        refine (dB (l11Ok_any _ _ s l j x _ hs (by simp) (by simp) (by simp) (by simp))).mono ?_
        rintro e w1 ⟨rfl, hb1⟩
        obtain ⟨hc1, hf1⟩ := bcell hb1
        have q1_0 : w.heap.size < w1.heap.size := by have := hb1.size; simp at this; omega
        have be1 : Below w.heap.size w w1 := ((Below.refl w.heap.size w).alloc (by simp) _).trans (hb1.mono (by simp))
        have hbe := be1
        go_wp2_with (go_at_call 71; refine (l11Flow_any _ _).mono ?_; rintro e w' ⟨rfl, rfl⟩)
        go_ret2
        exact ⟨ret_ii (by rw [HR.out]; simp [longF, h0, h1, h2]), hbe⟩
      · obtain ⟨n1, n2⟩ := inB_iff.1 h2
        by_cases hqn : q < n
        · go_enter Try.func29, Try.ntmps29
          go_wp2_with (go_at_call 71; refine (l11Flow_any _ _).mono ?_; rintro e w' ⟨rfl, rfl⟩)
          refine (dB (l11Ok_any _ _ s l j x _ hs (by simp) (by simp) (by simp) (by simp))).mono ?_
          rintro e w1 ⟨rfl, hb1⟩
          obtain ⟨hc1, hf1⟩ := bcell hb1
          have q1_0 : w.heap.size < w1.heap.size := by have := hb1.size; simp at this; omega
          have be1 : Below w.heap.size w w1 := ((Below.refl w.heap.size w).alloc (by simp) _).trans (hb1.mono (by simp))
          have hbe := be1
          go_wp2_with (go_at_call 71; refine (l11Flow_any _ _).mono ?_; rintro e w' ⟨rfl, rfl⟩)
          go_ret2
          exact ⟨ret_ii (by rw [HR.out]; simp [longF, h0, h1, h2, hqn]), hbe⟩
        · obtain ⟨N, hN, hN4, hlt⟩ := joints2000 k3 k4
          obtain ⟨m1, m2, m3⟩ := longM_spec (j := j) (x := x) (q := q) (n := n) q1 (by omega) k5 k6 (by omega) hN
          have HF : Hid (longF s l j x q n = (lenOf j (longM j x q n), 0)) := Lib.hid (by simp [longF, h0, h1, h2, hqn])
          generalize longM j x q n = m at *
          have HL := Lib.hid hlt
          have M2 := Lib.hid m2
          have M3 := Lib.hid m3
          have HS := Lib.hid (settle_bd (d := q) (s := x) q1 (by omega) k5 (by omega))
          have HD := Lib.hid (settle_le (q := q) (x := x) q1 (by omega) k5 (by omega))
          have HC := Lib.hid (fun W b c0 c1 c2 c3 => dB (eqbd (l11Ok_any b 0 s l j x W hs c0 c1 c2 c3) h0))
          clear hN hlt m2 m3 h0
          go_enter Try.func29, Try.ntmps29
          go_wp2_with fail
          refine (HC.out _ _ (by simp) (by simp) (by simp) (by simp)).mono ?_
          rintro e w1 ⟨rfl, hb1⟩
          obtain ⟨hc1, -⟩ := bcell hb1
          have be : Below w.heap.size w w1 := ((Below.refl w.heap.size w).alloc (by simp) _).trans (hb1.mono (by simp))
          have hz1 : w.heap.size < w1.heap.size := by have := hb1.size; simp at this; omega
          have z2 : w1.cell? ⟨w.heap.size, 2, none⟩ = some (.int .i64 j) := by rw [hc1 _ _ (by simp)]; simp
          have z3 : w1.cell? ⟨w.heap.size, 3, none⟩ = some (.int .i64 x) := by rw [hc1 _ _ (by simp)]; simp
          clear hc1 hb1
          have hl0 : mn 2000 j = lenOf j (0 : Nat) := by rw [lenOf_mn]; congr 1; simp
          have HM := Lib.hid (eqi (fun W => l00Min_any 2000 j W) hl0)
          clear hl0
          go_wp2_with (first | (go_at_call 71; refine (l11Flow_any _ _).mono ?_; rintro e w' ⟨rfl, rfl⟩) | (go_at_call 72; refine (HM.out _).mono ?_; rintro e w' ⟨rfl, rfl⟩))
          go_loopw [1, 8] (fun f ln wr => ∃ k : Nat, k ≤ m ∧ f = .int .i64 (settleF q x k) ∧ ln = .int .i64 (lenOf j k) ∧ Below w1.heap.size w1 wr) (fun _ ln _ => (2000 - intOf ln).toNat)
          case atStart => exact ⟨0, Nat.zero_le _, rfl, rfl, Below.refl _ _⟩
          case round =>
            obtain ⟨k, hk, rfl, rfl, hb⟩ := hrel
            have c2 := cell_later hb z2
            have c3 := cell_later hb z3
            obtain ⟨l1, l2⟩ := lenOf_bd (j := j) (m := k) k3 (by omega)
            obtain ⟨s1, s2⟩ := HS.out k
            have s3 := HD.out k
            by_cases hkN : k < N
            · have hlt : lenOf j k < 2000 := by
                have := (HL.out k).2 (by omega)
                unfold lenOf; rw [if_pos this]; exact this
              have HA := Lib.hid (l11After_any w.heap.size 0 x (settleF q x k) 1 wr s1 (by omega) k5 k6 (by omega) (by first | exact c3 | simpa using c3))
              have e1 : settleF (settleF q x k) x 1 = settleF q x (k + 1) := rfl
              rw [e1, show ((1 : Nat) : Int) = 1 from rfl] at HA
              obtain ⟨s4, s5⟩ := HS.out (k + 1)
              have s6 := HD.out (k + 1)
              by_cases hkm : k < m
              · have hc := M2.out (k + 1) hkm
                have hnx := lenOf_next (k := k) HL.out (by omega)
                have HMN := Lib.hid (eqi (fun W => l00Min_any 2000 (lenOf j k + j) W) hnx)
                have hup : lenOf j k < lenOf j ((k : Int) + 1) := by rw [← hnx]; unfold mn; split <;> omega
                obtain ⟨y1, y2⟩ := lenOf_bd (j := j) (m := (k : Int) + 1) k3 (by omega)
                clear hnx e1
                have hek : lenOf j ((k : Int) + 1) = lenOf j ((k + 1 : Nat) : Int) := rfl
                have HEK := Lib.hid hek
                clear hek
                generalize lenOf j ((k : Int) + 1) = len' at *
                generalize lenOf j k = len at *
                generalize hyy : settleF q x (k + 1) = y at *
                have HYY := Lib.hid hyy
                clear hyy
                generalize settleF q x k = y0 at *
                go_wp2_with (first | (go_at_call 73; refine (HA.out).mono ?_; rintro e w' ⟨rfl, _, rfl⟩) | (go_at_call 72; refine (HMN.out _).mono ?_; rintro e w' ⟨rfl, rfl⟩))
                go_roundw
                case rel => exact ⟨k + 1, by omega, by rw [HYY.out], by rw [← HEK.out], by first | exact hb | exact below_drewN hb _⟩
                case measure => simp [intOf]; omega
              · obtain rfl : k = m := by omega
                have hc := M3.out (k + 1) (by omega) (by omega)
                clear e1
                generalize lenOf j k = len at *
                generalize settleF q x (k + 1) = y at *
                generalize settleF q x k = y0 at *
                go_wp2_with (go_at_call 73; refine (HA.out).mono ?_; rintro e w' ⟨rfl, _, rfl⟩)
                go_ret2
                exact ⟨ret_ii (by rw [HR.out, HF.out]), be.trans ((below_drewN hb _).mono (by omega))⟩
            · obtain rfl : k = m := by omega
              have hge : 2000 ≤ lenOf j k := by
                have := fun h => hkN (Int.ofNat_lt.1 ((HL.out k).1 h))
                unfold lenOf; rw [if_neg this]; exact Int.le_refl _
              generalize lenOf j k = len at *
              generalize settleF q x k = y0 at *
              go_wp2
              go_ret2
              exact ⟨ret_ii (by rw [HR.out, HF.out]), be.trans (hb.mono (by omega))⟩
theorem fnExactLongestDuct_walk (s : ByteArray) (hs : s.size ≤ maxLen) (l : Int) (_ : -9223372036854775808 ≤ l ∧ l ≤ 9223372036854775807) (j : Int) (_ : -9223372036854775808 ≤ j ∧ j ≤ 9223372036854775807) (x : Int) (_ : -9223372036854775808 ≤ x ∧ x ≤ 9223372036854775807) (a0 : Int) (_ : -9223372036854775808 ≤ a0 ∧ a0 ≤ 9223372036854775807) (a1 : Int) (_ : -9223372036854775808 ≤ a1 ∧ a1 ≤ 9223372036854775807) (w : World) :
    Calls Try.prog 7 #[.agg #[.string s, .int .i64 l, .int .i64 j, .int .i64 x], .int .i64 a0, .int .i64 a1] w fun e w' => e = .returned (.bool true) ∧ Below w.heap.size w w' := by
  by_cases h : (s.size : Int) ≤ 1048576
  · go_enter Try.func7, Try.ntmps7
    go_wp2_with fail
    refine (szDuct_yes _ _ _ _ _ _ (by omega) h).mono ?_
    rintro e w1 ⟨rfl, hb1⟩
    obtain ⟨hc1, hf1⟩ := bcell hb1
    have q1_0 : w.heap.size < w1.heap.size := by have := hb1.size; simp at this; omega
    have be1 : Below w.heap.size w w1 := ((Below.refl w.heap.size w).alloc (by simp) _).trans (hb1.mono (by simp))
    go_wp2_with fail
    refine (toDuct_any _ _ _ _ _).mono ?_
    rintro e w2 ⟨rfl, hb2⟩
    obtain ⟨hc2, hf2⟩ := bcell hb2
    have q2_0 : w.heap.size < w2.heap.size := by have := hb2.size; omega
    have be2 : Below w.heap.size w w2 := be1.trans (hb2.mono (by omega))
    go_wp2_with fail
    refine (LongestDuct_s _ _ _ _ _ _ _ hs).mono ?_
    rintro e w3 ⟨rfl, hb3⟩
    obtain ⟨hc3, hf3⟩ := bcell hb3
    have q3_0 : w.heap.size < w3.heap.size := by have := hb3.size; omega
    have be3 : Below w.heap.size w w3 := be2.trans (hb3.mono (by omega))
    go_wp2_with fail
    refine (toDuct_any _ _ _ _ _).mono ?_
    rintro e w4 ⟨rfl, hb4⟩
    obtain ⟨hc4, hf4⟩ := bcell hb4
    have q4_0 : w.heap.size < w4.heap.size := by have := hb4.size; omega
    have be4 : Below w.heap.size w w4 := be3.trans (hb4.mono (by omega))
    go_wp2_with fail
    refine (LongestDuct_i _ _ _ _ _ _ _ hs).mono ?_
    rintro e w5 ⟨rfl, hb5⟩
    obtain ⟨hc5, hf5⟩ := bcell hb5
    have q5_0 : w.heap.size < w5.heap.size := by have := hb5.size; omega
    have be5 : Below w.heap.size w w5 := be4.trans (hb5.mono (by omega))
    have hbe := be5
    go_wp2_with fail
    go_ret
    exact ⟨rfl, hbe⟩
  · go_enter Try.func7, Try.ntmps7
    go_wp2_with fail
    refine (szDuct_no _ _ _ _ _ _ (by omega) (by omega) hs (by omega)).mono ?_
    rintro e w1 ⟨rfl, hb1⟩
    obtain ⟨hc1, hf1⟩ := bcell hb1
    have q1_0 : w.heap.size < w1.heap.size := by have := hb1.size; simp at this; omega
    have be1 : Below w.heap.size w w1 := ((Below.refl w.heap.size w).alloc (by simp) _).trans (hb1.mono (by simp))
    have hbe := be1
    go_wp2_with fail
    go_ret
    exact ⟨rfl, hbe⟩
end Go.Proofs.Ytmfbdngibbkciaa
