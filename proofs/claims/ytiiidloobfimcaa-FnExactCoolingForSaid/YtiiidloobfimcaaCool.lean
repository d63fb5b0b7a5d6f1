/- How much cooling brings air down to a limit: the program's and the reference's; and the walk of the law. Conditions: the bounds that each theorem names. -/
import Derived.Test.YtiiidloobfimcaaHeat
import Derived.Test.YtiiidloobfimcaaHof
import Derived.Test.YtiiidloobfimcaaFirst
import Derived.Test.YtiiidloobfimcaaQuiet
import Derived.IntWalk
import Derived.BigQuiet
namespace Go.Proofs.Ytiiidloobfimcaa
open Go.RowKit
open Pl
theorem heatF_mono {p p' q d : Int} (h : p ≤ p') : heatF p q d ≤ heatF p' q d := by
  unfold heatF
  have m := mx_ge_left 1 (divR (q * d) 100)
  exact divR_mono (by omega) (by omega)
theorem heatF_opp (p q d : Int) : heatF (-p) q d = - heatF p q d := by
  unfold heatF
  have m := mx_ge_left 1 (divR (q * d) 100)
  rw [show 2000 * -p = -(2000 * p) by omega]
  exact divR_opp (by omega)
theorem heatF_bd {p q d : Int} (h1 : 0 ≤ p) (h2 : p ≤ 10000000) : 0 ≤ heatF p q d ∧ heatF p q d ≤ 20000000000 := by
  unfold heatF
  have m := mx_ge_left 1 (divR (q * d) 100)
  generalize mx 1 (divR (q * d) 100) = b at *
  exact ⟨divR_nonneg' (by omega) (by omega), divR_le (by omega) (by omega) (by omega)⟩
def coolK (t l q d : Int) : Int := firstFrom (fun p => decide (t - heatF p q d ≤ l)) 0 10000001
theorem coolK_spec (t l q d : Int) : 0 ≤ coolK t l q d ∧ coolK t l q d ≤ 10000001 ∧ ∀ x, 0 ≤ x → x ≤ 10000000 → (coolK t l q d ≤ x ↔ t - heatF x q d ≤ l) := by
  unfold coolK
  generalize hN : (10000001 : Nat) = N
  obtain ⟨a, b, c, e⟩ := firstFrom_spec (fun p => decide (t - heatF p q d ≤ l)) N 0
  refine ⟨a, by omega, fun x h1 h2 => ⟨fun h => ?_, fun h => ?_⟩⟩
  · have := of_decide_eq_true (e (by omega))
    have := heatF_mono (q := q) (d := d) h
    omega
  · by_cases hh : firstFrom (fun p => decide (t - heatF p q d ≤ l)) 0 N ≤ x
    · exact hh
    · have := of_decide_eq_false (c x h1 (by omega))
      omega
def coolF (t l q d : Int) : Int × Int := if inB t (-100) 600 && (inB l (-100) 600 && (inB q 1 100000 && inB d 1 5000)) then (cond (decide (coolK t l q d ≤ 10000000)) (coolK t l q d) 0, cond (decide (coolK t l q d ≤ 10000000)) 0 3) else (0, 2)
theorem box4 (w : World) (a b c d : Value) (ta tb tc td : TypeId) :
    let W := (((w.alloc (.cells #[a] ta)).alloc (.cells #[b] tb)).alloc (.cells #[c] tc)).alloc (.cells #[d] td)
    W.cell? ⟨w.heap.size, 0, none⟩ = some a ∧ W.cell? ⟨w.heap.size + 1, 0, none⟩ = some b ∧ W.cell? ⟨w.heap.size + 2, 0, none⟩ = some c ∧ W.cell? ⟨w.heap.size + 3, 0, none⟩ = some d := by
  refine ⟨?_, ?_, ?_, ?_⟩
  · rw [World.cell?_alloc_past _ _ _ (by simp <;> omega), World.cell?_alloc_past _ _ _ (by simp <;> omega)]; exact (box2 w a b ta tb).1
  · rw [World.cell?_alloc_past _ _ _ (by simp), World.cell?_alloc_past _ _ _ (by simp)]; exact (box2 w a b ta tb).2
  · have := (box2 ((w.alloc (.cells #[a] ta)).alloc (.cells #[b] tb)) c d tc td).1
    simpa using this
  · have := (box2 ((w.alloc (.cells #[a] ta)).alloc (.cells #[b] tb)) c d tc td).2
    simpa using this
theorem cool1_any (t l q d x : Int) (bt bl bq bd : Nat) (w : World) (hx1 : 0 ≤ x) (hx2 : x ≤ 10000000) (ht1 : -100 ≤ t) (ht2 : t ≤ 600) (hq1 : 1 ≤ q) (hq2 : q ≤ 100000) (hd1 : 1 ≤ d) (hd2 : d ≤ 5000)
    (c1 : w.cell? ⟨bt, 0, none⟩ = some (.int .i64 t)) (c2 : w.cell? ⟨bl, 0, none⟩ = some (.int .i64 l)) (c3 : w.cell? ⟨bq, 0, none⟩ = some (.int .i64 q)) (c4 : w.cell? ⟨bd, 0, none⟩ = some (.int .i64 d)) :
    Calls Try.prog 64 #[.int .i64 x, .pointer (some ⟨bt, 0, none⟩), .pointer (some ⟨bq, 0, none⟩), .pointer (some ⟨bd, 0, none⟩), .pointer (some ⟨bl, 0, none⟩)] w fun e w' => e = .returned (.bool (decide (t - heatF x q d ≤ l))) ∧ Below w.heap.size w w' := by
  obtain ⟨y1, y2⟩ := heatF_bd (q := q) (d := d) hx1 hx2
  have HC := Lib.hid (fun W => heatFrom_any x q d W (by omega) hx2 hq1 hq2 hd1 hd2)
  generalize heatF x q d = y at *
  have hw : IntKind.i64.wrap (t - y) = t - y := IntWalk.i64_in _ (by omega)
  go_enter Try.func64, Try.ntmps64
  go_wp2_with fail
  go_quiet ((go_at_call 65; first | exact quiet_d (HC.out _) | exact quiet_d2 (HC.out _)))
  go_wp2
  go_ret
  exact ⟨rfl, below_drewN (Below.refl _ _) _⟩
theorem CoolingFor_i (t l q d : Int) (w : World) :
    Calls Try.prog 22 #[.int .i64 t, .int .i64 l, .int .i64 q, .int .i64 d] w fun e w' => e = .returned (.tuple #[.int .i64 (coolF t l q d).1, .int .i64 (coolF t l q d).2]) ∧ Below w.heap.size w w' := by
  unfold coolF
  cases h1 : inB t (-100) 600
  · go_enter Try.func22, Try.ntmps22
    go_wp2_with (first | (go_at_call 60; refine (within_any _ _ _ _).mono ?_; rintro e w' ⟨rfl, rfl⟩) | (go_at_call 59; refine (warmthOk_any _ _).mono ?_; rintro e w' ⟨rfl, rfl⟩) | (go_at_call 61; refine (densityOk_any _ _).mono ?_; rintro e w' ⟨rfl, rfl⟩))
    go_ret2
    exact ⟨by simp, by go_grown⟩
  · obtain ⟨h1a, h1b⟩ := inB_iff.1 h1
    cases h2 : inB l (-100) 600
    · go_enter Try.func22, Try.ntmps22
      go_wp2_with (first | (go_at_call 60; refine (within_any _ _ _ _).mono ?_; rintro e w' ⟨rfl, rfl⟩) | (go_at_call 59; refine (warmthOk_any _ _).mono ?_; rintro e w' ⟨rfl, rfl⟩) | (go_at_call 61; refine (densityOk_any _ _).mono ?_; rintro e w' ⟨rfl, rfl⟩))
      go_ret2
      exact ⟨by simp, by go_grown⟩
    · obtain ⟨h2a, h2b⟩ := inB_iff.1 h2
      cases h3 : inB q 1 100000
      · go_enter Try.func22, Try.ntmps22
        go_wp2_with (first | (go_at_call 60; refine (within_any _ _ _ _).mono ?_; rintro e w' ⟨rfl, rfl⟩) | (go_at_call 59; refine (warmthOk_any _ _).mono ?_; rintro e w' ⟨rfl, rfl⟩) | (go_at_call 61; refine (densityOk_any _ _).mono ?_; rintro e w' ⟨rfl, rfl⟩))
        go_ret2
        exact ⟨by simp, by go_grown⟩
      · obtain ⟨h3a, h3b⟩ := inB_iff.1 h3
        cases h4 : inB d 1 5000
        · go_enter Try.func22, Try.ntmps22
          go_wp2_with (first | (go_at_call 60; refine (within_any _ _ _ _).mono ?_; rintro e w' ⟨rfl, rfl⟩) | (go_at_call 59; refine (warmthOk_any _ _).mono ?_; rintro e w' ⟨rfl, rfl⟩) | (go_at_call 61; refine (densityOk_any _ _).mono ?_; rintro e w' ⟨rfl, rfl⟩))
          go_ret2
          exact ⟨by simp, by go_grown⟩
        · obtain ⟨h4a, h4b⟩ := inB_iff.1 h4
          have hb0 : Below w.heap.size w ((((w.alloc (.cells #[.int .i64 t] 2)).alloc (.cells #[.int .i64 l] 2)).alloc (.cells #[.int .i64 q] 2)).alloc (.cells #[.int .i64 d] 2)) := ((((Below.refl w.heap.size w).alloc (Nat.le_refl _) _).alloc (by simp) _).alloc (by simp <;> omega) _).alloc (by simp <;> omega) _
          obtain ⟨hk1, hk2, hk3⟩ := coolK_spec t l q d
          simp only [Bool.and_self, if_true]
          generalize coolK t l q d = k at *
          have HB := Lib.hid hb0
          have H3 := Lib.hid hk3
          clear hb0 hk3
          go_enter Try.func22, Try.ntmps22
          go_wp2_with (first | (go_at_call 60; refine (within_any _ _ _ _).mono ?_; rintro e w' ⟨rfl, rfl⟩) | (go_at_call 59; refine (warmthOk_any _ _).mono ?_; rintro e w' ⟨rfl, rfl⟩) | (go_at_call 61; refine (densityOk_any _ _).mono ?_; rintro e w' ⟨rfl, rfl⟩))
          refine (firstIn_any 64 _ (enters_of Try.func64 (by kernel_rfl) rfl) 0 10000000 k (by omega) (by omega) hk1 hk2 _ ?_).mono ?_
          · intro W x hb hx1 hx2
            obtain ⟨hc, _⟩ := bcell hb
            obtain ⟨b1, b2, b3, b4⟩ := box4 w (.int .i64 t) (.int .i64 l) (.int .i64 q) (.int .i64 d) 2 2 2 2
            have c1 := (hc _ _ (by simp <;> omega)).trans b1
            have c2 := (hc _ _ (by simp <;> omega)).trans b2
            have c3 := (hc _ _ (by simp)).trans b3
            have c4 := (hc _ _ (by simp)).trans b4
            have e : decide (k ≤ x) = decide (t - heatF x q d ≤ l) := decide_eq_decide.2 (H3.out x hx1 hx2)
            show Calls _ _ #[.int .i64 x, .pointer (some ⟨w.heap.size, 0, none⟩), .pointer (some ⟨w.heap.size + 2, 0, none⟩), .pointer (some ⟨w.heap.size + 3, 0, none⟩), .pointer (some ⟨w.heap.size + 1, 0, none⟩)] _ (fun e' w' => e' = .returned (.bool (decide (k ≤ x))) ∧ _)
            rw [e]
            exact cool1_any t l q d x _ _ _ _ W hx1 hx2 h1a h1b h3a h3b h4a h4b c1 c2 c3 c4
          · rintro e w' ⟨rfl, hb⟩
            go_wp2_with (go_at_call 62; refine (orNotFound_any _ _ _).mono ?_; rintro e w' ⟨rfl, rfl⟩)
            go_ret2
            exact ⟨rfl, HB.out.trans (hb.mono (by simp <;> omega))⟩
theorem CoolingFor_s (t l q d : Int) (w : World) :
    Calls Try.prog 21 #[.int .i64 t, .int .i64 l, .int .i64 q, .int .i64 d] w fun e w' => e = .returned (.tuple #[.int .i64 (coolF t l q d).1, .int .i64 (coolF t l q d).2]) ∧ Below w.heap.size w w' := by
  unfold coolF
  cases h1 : inB t (-100) 600
  · go_enter Try.func21, Try.ntmps21
    go_wp2_with (first | (go_at_call 56; refine (l00In_any _ _ _ _).mono ?_; rintro e w' ⟨rfl, rfl⟩) | (go_at_call 55; refine (l02Temperature_any _ _).mono ?_; rintro e w' ⟨rfl, rfl⟩) | (go_at_call 57; refine (l02Dense_any _ _).mono ?_; rintro e w' ⟨rfl, rfl⟩))
    go_ret2
    exact ⟨by simp, Below.refl _ _⟩
  · obtain ⟨h1a, h1b⟩ := inB_iff.1 h1
    cases h2 : inB l (-100) 600
    · go_enter Try.func21, Try.ntmps21
      go_wp2_with (first | (go_at_call 56; refine (l00In_any _ _ _ _).mono ?_; rintro e w' ⟨rfl, rfl⟩) | (go_at_call 55; refine (l02Temperature_any _ _).mono ?_; rintro e w' ⟨rfl, rfl⟩) | (go_at_call 57; refine (l02Dense_any _ _).mono ?_; rintro e w' ⟨rfl, rfl⟩))
      go_ret2
      exact ⟨by simp, Below.refl _ _⟩
    · obtain ⟨h2a, h2b⟩ := inB_iff.1 h2
      cases h3 : inB q 1 100000
      · go_enter Try.func21, Try.ntmps21
        go_wp2_with (first | (go_at_call 56; refine (l00In_any _ _ _ _).mono ?_; rintro e w' ⟨rfl, rfl⟩) | (go_at_call 55; refine (l02Temperature_any _ _).mono ?_; rintro e w' ⟨rfl, rfl⟩) | (go_at_call 57; refine (l02Dense_any _ _).mono ?_; rintro e w' ⟨rfl, rfl⟩))
        go_ret2
        exact ⟨by simp, Below.refl _ _⟩
      · obtain ⟨h3a, h3b⟩ := inB_iff.1 h3
        cases h4 : inB d 1 5000
        · go_enter Try.func21, Try.ntmps21
          go_wp2_with (first | (go_at_call 56; refine (l00In_any _ _ _ _).mono ?_; rintro e w' ⟨rfl, rfl⟩) | (go_at_call 55; refine (l02Temperature_any _ _).mono ?_; rintro e w' ⟨rfl, rfl⟩) | (go_at_call 57; refine (l02Dense_any _ _).mono ?_; rintro e w' ⟨rfl, rfl⟩))
          go_ret2
          exact ⟨by simp, Below.refl _ _⟩
        · obtain ⟨h4a, h4b⟩ := inB_iff.1 h4
          obtain ⟨hk1, hk2, hk3⟩ := coolK_spec t l q d
          simp only [Bool.and_self, if_true]
          generalize coolK t l q d = k at *
          have H3 := Lib.hid hk3
          clear hk3
          go_enter Try.func21, Try.ntmps21
          go_wp2_with (first | (go_at_call 56; refine (l00In_any _ _ _ _).mono ?_; rintro e w' ⟨rfl, rfl⟩) | (go_at_call 55; refine (l02Temperature_any _ _).mono ?_; rintro e w' ⟨rfl, rfl⟩) | (go_at_call 57; refine (l02Dense_any _ _).mono ?_; rintro e w' ⟨rfl, rfl⟩))
          go_loop [10, 11] (fun lo hi => ∃ a b : Int, lo = .int .i64 a ∧ hi = .int .i64 b ∧ -1 ≤ a ∧ a < k ∧ k ≤ b ∧ b ≤ 10000001) (fun lo hi => (intOf hi - intOf lo).toNat)
          case atStart => exact ⟨-1, 10000001, rfl, rfl, by omega, by omega, by omega, by omega⟩
          case round =>
            obtain ⟨a, b, rfl, rfl, a1, a2, b1, b2⟩ := hrel
            by_cases hlt : 1 < b - a
            · have s0 : 0 ≤ a + b := by omega
              obtain ⟨x, hx⟩ : ∃ x, (a + b) / 2 = x := ⟨_, rfl⟩
              have x1 : a < x := by omega
              have x2 : x < b := by omega
              obtain ⟨y1, y2⟩ := heatF_bd (p := x) (q := q) (d := d) (by omega) (by omega)
              have HC : ∀ W, Calls Try.prog 58 #[.int .i64 (-x), .int .i64 q, .int .i64 d] W fun e w' => e = .returned (.int .i64 (-(heatF x q d))) ∧ W = w' := fun W => by
                rw [← heatF_opp]; exact l16Heat_any (-x) q d W (by omega) (by omega) h3a h3b h4a h4b
              have h3' := H3.out x (by omega) (by omega)
              generalize heatF x q d = y at *
              have HC := Lib.hid HC
              by_cases hm : k ≤ x
              · have hc : t + -y ≤ l := by have := h3'.1 hm; omega
                clear h3'
                go_wp2_with (go_at_call 58; refine (HC.out _).mono ?_; rintro e w' ⟨rfl, rfl⟩)
                go_round
                case rel => exact ⟨a, x, rfl, by go_num, by omega, by omega, by omega, by omega⟩
                case measure => simp [intOf]; omega
              · have hc : l < t + -y := by
                  by_cases e : t - y ≤ l
                  · exact absurd (h3'.2 e) hm
                  · omega
                clear h3'
                go_wp2_with (go_at_call 58; refine (HC.out _).mono ?_; rintro e w' ⟨rfl, rfl⟩)
                go_round
                case rel => exact ⟨x, b, by go_num, rfl, by omega, by omega, by omega, by omega⟩
                case measure => simp [intOf]; omega
            · obtain rfl : k = b := by omega
              by_cases hh : k ≤ 10000000
              · go_wp2
                go_ret2
                exact ⟨by simp, Below.refl _ _⟩
              · have hd : decide (k ≤ 10000000) = false := decide_eq_false hh
                have HD := Lib.hid hd
                clear hd
                go_wp2
                go_ret2
                exact ⟨by simp [HD.out], Below.refl _ _⟩
theorem fnExactCoolingFor_walk (a0 : Int) (_ : -9223372036854775808 ≤ a0 ∧ a0 ≤ 9223372036854775807) (a1 : Int) (_ : -9223372036854775808 ≤ a1 ∧ a1 ≤ 9223372036854775807) (a2 : Int) (_ : -9223372036854775808 ≤ a2 ∧ a2 ≤ 9223372036854775807) (a3 : Int) (_ : -9223372036854775808 ≤ a3 ∧ a3 ≤ 9223372036854775807) (w : World) :
    Calls Try.prog 5 #[.int .i64 a0, .int .i64 a1, .int .i64 a2, .int .i64 a3] w fun e w' => e = .returned (.bool true) ∧ Below w.heap.size w w' := by
  go_enter Try.func5, Try.ntmps5
  go_wp2_with fail
  refine (CoolingFor_s _ _ _ _ _).mono ?_
  rintro e w1 ⟨rfl, hb1⟩
  obtain ⟨hc1, hf1⟩ := bcell hb1
  have q1 : w.heap.size ≤ w1.heap.size := by have := hb1.size; omega
  have be1 : Below w.heap.size w w1 := hb1
  go_wp2_with fail
  refine (CoolingFor_i _ _ _ _ _).mono ?_
  rintro e w2 ⟨rfl, hb2⟩
  obtain ⟨hc2, hf2⟩ := bcell hb2
  have q2 : w.heap.size ≤ w2.heap.size := by have := hb2.size; omega
  have be2 : Below w.heap.size w w2 := be1.trans (hb2.mono (by omega))
  have hbe := be2
  go_wp2_with fail
  go_ret
  exact ⟨rfl, hbe⟩
end Go.Proofs.Ytiiidloobfimcaa
