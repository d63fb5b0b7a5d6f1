/- The draught of a column of air and the least temperature with at least a draught, by the program and by the reference; and the walk of the law. Conditions: the bounds that each theorem names. -/
import Derived.Test.YtnjplfcmojeedaaBase
import Derived.Test.YtnjplfcmojeedaaHof
import Derived.Test.YtnjplfcmojeedaaQuiet
import Derived.Lib.Hide
namespace Go.Proofs.Ytnjplfcmojeedaa
open Go.RowKit
open Pl
def densF (t : Int) : Int := divR 3531183 (2731 + t)
def colF (rise t : Int) : Int := divR (981 * (1200 - densF t) * rise) 100000
theorem dens_bd {t : Int} (h1 : -300 ≤ t) (h2 : t ≤ 600) : 0 ≤ densF t ∧ densF t ≤ 1500 := by
  unfold densF
  exact ⟨divR_nonneg' (by omega) (by omega), divR_le (by omega) (by omega) (by omega)⟩
theorem col_bd {r t : Int} (h1 : -300 ≤ t) (h2 : t ≤ 600) (h3 : -6000 ≤ r) (h4 : r ≤ 6000) : -100000000000 ≤ 981 * (1200 - densF t) * r ∧ 981 * (1200 - densF t) * r ≤ 100000000000 := by
  obtain ⟨a, b⟩ := dens_bd h1 h2
  obtain ⟨m1, m2⟩ := mul_abs (a := 981 * (1200 - densF t)) (b := r) (A := 1177200) (B := 6000) (by omega) (by omega) (by omega) (by omega)
  omega
theorem warmDensity_any (t : Int) (w : World) (h1 : -300 ≤ t) (h2 : t ≤ 600) :
    Calls Try.prog 112 #[.int .i64 t] w fun e w' => e = .returned (.int .i64 (densF t)) ∧ ∃ n, w.drewN n = w' := by
  unfold densF
  go_enter Try.func112, Try.ntmps112
  go_wp2_with (go_at_call 105; refine (divRound_any _ _ _ (by omega) (by omega) (by omega) (by omega)).mono ?_; rintro e w' ⟨rfl, _, rfl⟩)
  go_ret
  exact ⟨rfl, _, rfl⟩
theorem columnDraught_any (r t : Int) (w : World) (h1 : -300 ≤ t) (h2 : t ≤ 600) (h3 : -6000 ≤ r) (h4 : r ≤ 6000) :
    Calls Try.prog 76 #[.int .i64 r, .int .i64 t] w fun e w' => e = .returned (.int .i64 (colF r t)) ∧ ∃ n, w.drewN n = w' := by
  unfold colF
  obtain ⟨a, b⟩ := dens_bd h1 h2
  obtain ⟨m1, m2⟩ := col_bd h1 h2 h3 h4
  go_enter Try.func76, Try.ntmps76
  go_wp2_with (first | (go_at_call 112; refine (warmDensity_any _ _ (by omega) (by omega)).mono ?_; rintro e w' ⟨rfl, _, rfl⟩) | (go_at_call 105; refine (divRound_any _ _ _ (by omega) (by omega) (by omega) (by omega)).mono ?_; rintro e w' ⟨rfl, _, rfl⟩))
  go_ret
  exact ⟨rfl, _, rfl⟩
theorem l09Density_any (t : Int) (w : World) (h1 : -300 ≤ t) (h2 : t ≤ 600) :
    Calls Try.prog 111 #[.int .i64 t] w fun e w' => e = .returned (.int .i64 (densF t)) ∧ w = w' := by
  unfold densF
  go_enter Try.func111, Try.ntmps111
  go_wp2_with (go_at_call 104; refine (l01Div_any _ _ _ (by omega) (by omega) (by omega) (by omega)).mono ?_; rintro e w' ⟨rfl, rfl⟩)
  go_ret
  exact ⟨rfl, rfl⟩
theorem l09Column_any (r t : Int) (w : World) (h1 : -300 ≤ t) (h2 : t ≤ 600) (h3 : -6000 ≤ r) (h4 : r ≤ 6000) :
    Calls Try.prog 72 #[.int .i64 r, .int .i64 t] w fun e w' => e = .returned (.int .i64 (colF r t)) ∧ w = w' := by
  unfold colF
  obtain ⟨a, b⟩ := dens_bd h1 h2
  obtain ⟨m1, m2⟩ := col_bd h1 h2 h3 h4
  go_enter Try.func72, Try.ntmps72
  go_wp2_with (first | (go_at_call 111; refine (l09Density_any _ _ (by omega) (by omega)).mono ?_; rintro e w' ⟨rfl, rfl⟩) | (go_at_call 104; refine (l01Div_any _ _ _ (by omega) (by omega) (by omega) (by omega)).mono ?_; rintro e w' ⟨rfl, rfl⟩))
  go_ret
  exact ⟨rfl, rfl⟩
/-- The first number from lo on, of n, with a property; lo + n, if none has it. -/
def firstFrom (p : Int → Bool) (lo : Int) : Nat → Int
  | 0 => lo
  | n + 1 => if p lo = true then lo else firstFrom p (lo + 1) n
theorem firstFrom_spec (p : Int → Bool) : ∀ (n : Nat) (lo : Int), lo ≤ firstFrom p lo n ∧ firstFrom p lo n ≤ lo + n ∧ (∀ x, lo ≤ x → x < firstFrom p lo n → p x = false) ∧ (firstFrom p lo n < lo + n → p (firstFrom p lo n) = true)
  | 0, lo => ⟨Int.le_refl _, by simp [firstFrom], fun x h1 h2 => by simp [firstFrom] at h2; omega, fun h => by simp [firstFrom] at h⟩
  | n + 1, lo => by
    unfold firstFrom
    by_cases h : p lo = true
    · rw [if_pos h]; exact ⟨Int.le_refl _, by omega, fun x h1 h2 => by omega, fun _ => h⟩
    · rw [if_neg h]
      obtain ⟨a, b, c, d⟩ := firstFrom_spec p n (lo + 1)
      refine ⟨by omega, by omega, fun x h1 h2 => ?_, fun h2 => d (by omega)⟩
      by_cases e : x = lo
      · subst e; simpa using h
      · exact c x (by omega) h2
def tempK (r d : Int) : Int := firstFrom (fun t => decide (colF r t ≥ d)) (-300) 901
def tempF (r d : Int) : Int × Int := if inB r (-6000) 6000 && inB d (-100000) 100000 then ((if tempK r d ≤ 600 then tempK r d else 0), (cond (decide (tempK r d ≤ 600)) 0 3)) else (0, 2)
theorem tempK_spec (r d : Int) : -300 ≤ tempK r d ∧ tempK r d ≤ 601 ∧ (∀ x, -300 ≤ x → x < tempK r d → decide (colF r x ≥ d) = false) ∧ (tempK r d ≤ 600 → decide (colF r (tempK r d) ≥ d) = true) := by
  obtain ⟨a, b, c, e⟩ := firstFrom_spec (fun t => decide (colF r t ≥ d)) 901 (-300)
  exact ⟨a, by unfold tempK; omega, c, fun h => e (by unfold tempK at h; omega)⟩
theorem temp1_any (r d t : Int) (b0 b1 : Nat) (w : World) (h1 : -300 ≤ t) (h2 : t ≤ 600) (h3 : -6000 ≤ r) (h4 : r ≤ 6000) (c0 : w.cell? ⟨b0, 0, none⟩ = some (.int .i64 r)) (c1 : w.cell? ⟨b1, 0, none⟩ = some (.int .i64 d)) :
    Calls Try.prog 75 #[.int .i64 t, .pointer (some ⟨b0, 0, none⟩), .pointer (some ⟨b1, 0, none⟩)] w fun e w' => e = .returned (.bool (decide (colF r t ≥ d))) ∧ Below w.heap.size w w' := by
  go_enter Try.func75, Try.ntmps75
  go_wp2_with fail
  go_quiet ((go_at_call 76; first | exact quiet_d (columnDraught_any _ _ _ h1 h2 h3 h4) | exact quiet_d2 (columnDraught_any _ _ _ h1 h2 h3 h4)))
  go_wp2
  go_ret
  exact ⟨rfl, below_drewN (Below.refl _ _) _⟩
theorem TemperatureFor_i (r d : Int) (w : World) :
    Calls Try.prog 28 #[.int .i64 r, .int .i64 d] w fun e w' => e = .returned (.tuple #[.int .i64 (tempF r d).1, .int .i64 (tempF r d).2]) ∧ Below w.heap.size w w' := by
  unfold tempF
  cases h1 : inB r (-6000) 6000
  · go_enter Try.func28, Try.ntmps28
    go_wp2_with (first | (go_at_call 57; refine (within_any _ _ _ _).mono ?_; rintro e w' ⟨rfl, rfl⟩) | (go_at_call 73; refine (riseOk_any _ _).mono ?_; rintro e w' ⟨rfl, rfl⟩))
    go_ret2
    exact ⟨by simp, by go_grown⟩
  · obtain ⟨h1a, h1b⟩ := inB_iff.1 h1
    cases h2 : inB d (-100000) 100000
    · go_enter Try.func28, Try.ntmps28
      go_wp2_with (first | (go_at_call 57; refine (within_any _ _ _ _).mono ?_; rintro e w' ⟨rfl, rfl⟩) | (go_at_call 73; refine (riseOk_any _ _).mono ?_; rintro e w' ⟨rfl, rfl⟩))
      go_ret2
      exact ⟨by simp, by go_grown⟩
    · obtain ⟨h2a, h2b⟩ := inB_iff.1 h2
      have hb0 : Below w.heap.size w ((w.alloc (.cells #[.int .i64 r] 2)).alloc (.cells #[.int .i64 d] 2)) := ((Below.refl w.heap.size w).alloc (Nat.le_refl _) _).alloc (by simp) _
      obtain ⟨hk1, hk2, hk3, hk4⟩ := tempK_spec r d
      simp only [Bool.and_self, if_true]
      generalize tempK r d = k at *
      have HB := Lib.hid hb0
      have H3 := Lib.hid hk3
      have H4 := Lib.hid hk4
      clear hb0 hk3 hk4
      obtain ⟨v, hv⟩ : ∃ v, (if k ≤ 600 then k else 0) = v := ⟨_, rfl⟩
      rw [hv]
      have HV := Lib.hid hv
      clear hv
      go_enter Try.func28, Try.ntmps28
      go_wp2_with (first | (go_at_call 57; refine (within_any _ _ _ _).mono ?_; rintro e w' ⟨rfl, rfl⟩) | (go_at_call 73; refine (riseOk_any _ _).mono ?_; rintro e w' ⟨rfl, rfl⟩))
      refine (least_any 75 _ (enters_of Try.func75 (by kernel_rfl) rfl) (-300) 600 k (by omega) (by omega) hk1 hk2 (fun t => decide (colF r t ≥ d)) _ ?_ H3.out H4.out).mono ?_
      · intro W x hb hx1 hx2
        obtain ⟨hc, _⟩ := bcell hb
        have c0 := (hc _ _ (by simp only [World.size_alloc]; omega)).trans (box2 w (.int .i64 r) (.int .i64 d) 2 2).1
        have c1 := (hc _ _ (by simp)).trans (box2 w (.int .i64 r) (.int .i64 d) 2 2).2
        exact temp1_any r d x _ _ W hx1 hx2 h1a h1b c0 c1
      · rw [HV.out]
        rintro e w' ⟨rfl, hb⟩
        by_cases hh : k ≤ 600
        · go_wp2_with (go_at_call 61; refine (orNotFound_any _ _ _).mono ?_; rintro e w' ⟨rfl, rfl⟩)
          go_ret2
          exact ⟨by simp [hh], HB.out.trans (hb.mono (by simp; omega))⟩
        · have hv0 : v = 0 := by rw [← HV.out, if_neg hh]
          subst hv0
          go_wp2_with (go_at_call 61; refine (orNotFound_any _ _ _).mono ?_; rintro e w' ⟨rfl, rfl⟩)
          go_ret2
          exact ⟨by simp, HB.out.trans (hb.mono (by simp; omega))⟩
theorem TemperatureFor_s (r d : Int) (w : World) :
    Calls Try.prog 27 #[.int .i64 r, .int .i64 d] w fun e w' => e = .returned (.tuple #[.int .i64 (tempF r d).1, .int .i64 (tempF r d).2]) ∧ Below w.heap.size w w' := by
  unfold tempF
  cases h1 : inB r (-6000) 6000
  · go_enter Try.func27, Try.ntmps27
    go_wp2_with (first | (go_at_call 54; refine (l00In_any _ _ _ _).mono ?_; rintro e w' ⟨rfl, rfl⟩) | (go_at_call 71; refine (l09Rise_any _ _).mono ?_; rintro e w' ⟨rfl, rfl⟩))
    go_ret2
    exact ⟨by simp, Below.refl _ _⟩
  · obtain ⟨h1a, h1b⟩ := inB_iff.1 h1
    cases h2 : inB d (-100000) 100000
    · go_enter Try.func27, Try.ntmps27
      go_wp2_with (first | (go_at_call 54; refine (l00In_any _ _ _ _).mono ?_; rintro e w' ⟨rfl, rfl⟩) | (go_at_call 71; refine (l09Rise_any _ _).mono ?_; rintro e w' ⟨rfl, rfl⟩))
      go_ret2
      exact ⟨by simp, Below.refl _ _⟩
    · obtain ⟨h2a, h2b⟩ := inB_iff.1 h2
      obtain ⟨hk1, hk2, hk3, hk4⟩ := tempK_spec r d
      simp only [Bool.and_self, if_true]
      generalize tempK r d = k at *
      have H3 := Lib.hid hk3
      have H4 := Lib.hid hk4
      clear hk3 hk4
      go_enter Try.func27, Try.ntmps27
      go_wp2_with (first | (go_at_call 54; refine (l00In_any _ _ _ _).mono ?_; rintro e w' ⟨rfl, rfl⟩) | (go_at_call 71; refine (l09Rise_any _ _).mono ?_; rintro e w' ⟨rfl, rfl⟩))
      go_loop [6] (fun i => ∃ x : Int, -300 ≤ x ∧ x ≤ k ∧ i = .int .i64 x) (fun i => (601 - intOf i).toNat)
      case atStart => exact ⟨-300, Int.le_refl _, hk1, rfl⟩
      case round =>
        obtain ⟨x, hx1, hx2, rfl⟩ := hrel
        by_cases hlt : x < k
        · have hd := H3.out x hx1 hlt
          go_wp2_with (go_at_call 72; refine (l09Column_any _ _ _ (by omega) (by omega) (by omega) (by omega)).mono ?_; rintro e w' ⟨rfl, rfl⟩)
          go_round
          case rel => exact ⟨x + 1, by omega, by omega, rfl⟩
          case measure => simp [intOf]; omega
        · obtain rfl : x = k := by omega
          by_cases hh : x ≤ 600
          · have hd := H4.out hh
            go_wp2_with (go_at_call 72; refine (l09Column_any _ _ _ (by omega) (by omega) (by omega) (by omega)).mono ?_; rintro e w' ⟨rfl, rfl⟩)
            go_ret2
            exact ⟨by simp, Below.refl _ _⟩
          · go_wp2
            go_ret2
            exact ⟨by simp, Below.refl _ _⟩
theorem fnExactTemperatureFor_walk (a0 : Int) (_ : -9223372036854775808 ≤ a0 ∧ a0 ≤ 9223372036854775807) (a1 : Int) (_ : -9223372036854775808 ≤ a1 ∧ a1 ≤ 9223372036854775807) (w : World) :
    Calls Try.prog 7 #[.int .i64 a0, .int .i64 a1] w fun e w' => e = .returned (.bool true) ∧ Below w.heap.size w w' := by
  go_enter Try.func7, Try.ntmps7
  go_wp2_with fail
  refine (TemperatureFor_s _ _ _).mono ?_
  rintro e w1 ⟨rfl, hb1⟩
  obtain ⟨hc1, hf1⟩ := bcell hb1
  have q1 : w.heap.size ≤ w1.heap.size := by have := hb1.size; omega
  have be1 : Below w.heap.size w w1 := hb1
  go_wp2_with fail
  refine (TemperatureFor_i _ _ _).mono ?_
  rintro e w2 ⟨rfl, hb2⟩
  obtain ⟨hc2, hf2⟩ := bcell hb2
  have q2 : w.heap.size ≤ w2.heap.size := by have := hb2.size; omega
  have be2 : Below w.heap.size w w2 := be1.trans (hb2.mono (by omega))
  have hbe := be2
  go_wp2_with fail
  go_ret
  exact ⟨rfl, hbe⟩
end Go.Proofs.Ytnjplfcmojeedaa
