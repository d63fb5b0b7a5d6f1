/- Mines: when one is valid, by the program and by the reference; the laws' own functions on mines. Conditions: the facts on memory and on lengths that each theorem names. -/
import Derived.Test.YtlgagnbnjfneaaaAirs
import Derived.Test.YtlgagnbnjfneaaaClone
namespace Go.Proofs.Ytlgagnbnjfneaaa
open Go.RowKit
open Pl
/-! ### Names in order -/
theorem less_flip : ∀ a b : List UInt8, (Op.bytesLess a b = true → Op.bytesLess b a = false ∧ (b == a) = false) ∧ (Op.bytesLess a b = false → Op.bytesLess b a = true ∨ (Op.bytesLess b a = false ∧ (b == a) = true))
  | [], [] => ⟨fun h => by simp [Op.bytesLess] at h, fun _ => .inr ⟨rfl, rfl⟩⟩
  | [], b :: ys => ⟨fun _ => ⟨rfl, rfl⟩, fun h => by simp [Op.bytesLess] at h⟩
  | a :: xs, [] => ⟨fun h => by simp [Op.bytesLess] at h, fun _ => .inl rfl⟩
  | a :: xs, b :: ys => by
    obtain ⟨h1, h2⟩ := less_flip xs ys
    have ha : ∀ x y : UInt8, x < y ∨ x = y ∨ y < x := fun x y => by
      rcases Nat.lt_trichotomy x.toNat y.toNat with h | h | h
      · exact .inl (UInt8.lt_iff_toNat_lt.2 h)
      · exact .inr (.inl (UInt8.toNat_inj.1 h))
      · exact .inr (.inr (UInt8.lt_iff_toNat_lt.2 h))
    have irr : ∀ x y : UInt8, x < y → ¬ y < x ∧ x ≠ y := fun x y h => by
      have h := UInt8.lt_iff_toNat_lt.1 h
      exact ⟨fun h' => by have := UInt8.lt_iff_toNat_lt.1 h'; omega, fun e => by subst e; omega⟩
    rcases ha a b with h | rfl | h
    · obtain ⟨i1, i2⟩ := irr a b h
      have e1 : Op.bytesLess (a :: xs) (b :: ys) = true := by simp [Op.bytesLess, h]
      have e2 : Op.bytesLess (b :: ys) (a :: xs) = false := by simp [Op.bytesLess, i1, Ne.symm i2]
      rw [e1, e2]
      refine ⟨fun _ => ⟨rfl, by simp [Ne.symm i2]⟩, fun h => by cases h⟩
    · have i : ¬ a < a := fun h => (irr a a h).2 rfl
      have e1 : Op.bytesLess (a :: xs) (a :: ys) = Op.bytesLess xs ys := by simp [Op.bytesLess, i]
      have e2 : Op.bytesLess (a :: ys) (a :: xs) = Op.bytesLess ys xs := by simp [Op.bytesLess, i]
      rw [e1, e2]
      refine ⟨fun h => ?_, fun h => ?_⟩
      · obtain ⟨g1, g2⟩ := h1 h; exact ⟨g1, by simpa using g2⟩
      · rcases h2 h with g | ⟨g1, g2⟩
        · exact .inl g
        · exact .inr ⟨g1, by simpa using g2⟩
    · obtain ⟨i1, i2⟩ := irr b a h
      have e1 : Op.bytesLess (a :: xs) (b :: ys) = false := by simp [Op.bytesLess, i1, Ne.symm i2]
      have e2 : Op.bytesLess (b :: ys) (a :: xs) = true := by simp [Op.bytesLess, h]
      rw [e1, e2]
      refine ⟨fun h => (by cases h), fun _ => .inl rfl⟩
/-- A valid mine. -/
noncomputable def awOk (a : Aw) : Bool := airwayB a.id a.f a.t a.l a.c a.r a.k
def endsB (J : Int) (a : Aw) : Bool := inB a.f 0 (J - 1) && inB a.t 0 (J - 1)
def ordB (xs : List Aw) (k : Nat) : Bool := decide (k = 0) || Op.bytesLess (xs.getD (k - 1) aNone).id.toList (xs.getD k aNone).id.toList
noncomputable def mineP (J : Int) (xs : List Aw) (k : Nat) : Bool := awOk (xs.getD k aNone) && (endsB J (xs.getD k aNone) && ordB xs k)
noncomputable def mineB (J : Int) (xs : List Aw) : Bool := inB J 1 16 && (decide ((xs.length : Int) ≤ 24) && allUp (mineP J xs) xs.length)
theorem ordB_succ (xs : List Aw) (k : Nat) : ordB xs (k + 1) = Op.bytesLess (xs.getD k aNone).id.toList (xs.getD (k + 1) aNone).id.toList := by unfold ordB; simp
theorem mineB_bd {J : Int} {xs : List Aw} (h : mineB J xs = true) : (1 ≤ J ∧ J ≤ 16) ∧ (xs.length : Int) ≤ 24 ∧ ∀ k, k < xs.length → awOk (xs.getD k aNone) = true ∧ endsB J (xs.getD k aNone) = true := by
  unfold mineB at h
  simp only [Bool.and_eq_true] at h
  obtain ⟨h1, h2, h3⟩ := h
  refine ⟨inB_iff.1 h1, of_decide_eq_true h2, fun k hk => ?_⟩
  have := (allUp_iff _ _).1 h3 k hk
  unfold mineP at this
  simp only [Bool.and_eq_true] at this
  exact ⟨this.1, this.2.1⟩
theorem hasJunction_any (J : Int) (A : Option Addr) (cp n : Nat) (x : Int) (w : World) (h1 : 1 ≤ J) (h2 : J ≤ 16) :
    Calls Try.prog 53 #[.agg #[.int .i64 J, .slice A n cp], .int .i64 x] w fun e w' => e = .returned (.bool (inB x 0 (J - 1))) ∧ Below w.heap.size w w' := by
  go_enter Try.func53, Try.ntmps53
  go_wp2_with (go_at_call 54; refine (within_any _ _ _ _).mono ?_; rintro e w' ⟨rfl, rfl⟩)
  go_ret
  exact ⟨rfl, by go_grown⟩
theorem hasEnds_any (J : Int) (A : Option Addr) (cp n : Nat) (s : ByteArray) (f t l c r k : Int) (w : World) (h1 : 1 ≤ J) (h2 : J ≤ 16) :
    Calls Try.prog 92 #[.agg #[.int .i64 J, .slice A n cp], .agg #[.string s, .int .i64 f, .int .i64 t, .int .i64 l, .int .i64 c, .int .i64 r, .int .i64 k]] w fun e w' => e = .returned (.bool (inB f 0 (J - 1) && inB t 0 (J - 1))) ∧ Below w.heap.size w w' := by
  have HF := Lib.hid (fun W => hasJunction_any J A cp n f W h1 h2)
  have HT := Lib.hid (fun W => hasJunction_any J A cp n t W h1 h2)
  cases e1 : inB f 0 (J - 1)
  · rw [e1] at HF
    clear e1
    go_enter Try.func92, Try.ntmps92
    go_wp2_with fail
    refine (HF.out _).mono ?_
    rintro e w1 ⟨rfl, hb1⟩
    obtain ⟨hc1, hf1⟩ := bcell hb1
    have q1_1 : w.heap.size + 1 < w1.heap.size := by have := hb1.size; simp at this; omega
    have q1_0 : w.heap.size < w1.heap.size := by have := hb1.size; simp at this; omega
    have be1 : Below w.heap.size w w1 := (((Below.refl w.heap.size w).alloc (by simp) _).alloc (by simp) _).trans (hb1.mono (by simp <;> omega))
    have hbe := be1
    go_wp2_with fail
    go_ret
    exact ⟨rfl, hbe⟩
  · rw [e1] at HF
    clear e1
    generalize inB t 0 (J - 1) = b at *
    go_enter Try.func92, Try.ntmps92
    go_wp2_with fail
    refine (HF.out _).mono ?_
    rintro e w1 ⟨rfl, hb1⟩
    obtain ⟨hc1, hf1⟩ := bcell hb1
    have q1_1 : w.heap.size + 1 < w1.heap.size := by have := hb1.size; simp at this; omega
    have q1_0 : w.heap.size < w1.heap.size := by have := hb1.size; simp at this; omega
    have be1 : Below w.heap.size w w1 := (((Below.refl w.heap.size w).alloc (by simp) _).alloc (by simp) _).trans (hb1.mono (by simp <;> omega))
    go_wp2_with fail
    refine (HT.out _).mono ?_
    rintro e w2 ⟨rfl, hb2⟩
    obtain ⟨hc2, hf2⟩ := bcell hb2
    have q2_1 : w.heap.size + 1 < w2.heap.size := by have := hb2.size; omega
    have q2_0 : w.heap.size < w2.heap.size := by have := hb2.size; omega
    have be2 : Below w.heap.size w w2 := be1.trans (hb2.mono (by omega))
    have hbe := be2
    go_wp2_with fail
    go_ret
    exact ⟨rfl, hbe⟩
set_option maxRecDepth 100000 in
set_option maxHeartbeats 3200000 in
theorem ValidMine_i (J : Int) (A : Option Addr) (cp : Nat) (xs : List Aw) (B : Nat) (w : World) (hn : (xs.length : Int) ≤ 1099511627776) (hF : FitsA xs) (hI : Recs encA 7 B w A xs) (hB : B ≤ w.heap.size) :
    Calls Try.prog 44 #[.agg #[.int .i64 J, .slice A xs.length cp]] w fun e w' => e = .returned (.bool (mineB J xs)) ∧ Below w.heap.size w w' := by
  obtain ⟨R, hR⟩ : ∃ R, R = mineB J xs := ⟨_, rfl⟩
  rw [← hR]
  have HR := Lib.hid hR
  clear hR
  have J0 := Lib.hid (hI.more hB)
  have HL := Lib.hid hF.id
  clear hI hF
  cases hj : inB J 1 16
  · have HN : Hid (mineB J xs = false) := Lib.hid (by unfold mineB; rw [hj]; rfl)
    go_enter Try.func44, Try.ntmps44
    go_wp2_with (go_at_call 54; refine (eqb (within_any _ _ _ _) hj).mono ?_; rintro e w' ⟨rfl, rfl⟩)
    go_ret
    exact ⟨ret_bool (by rw [HR.out, HN.out]), by go_grown⟩
  obtain ⟨j1, j2⟩ := inB_iff.1 hj
  by_cases h24 : (xs.length : Int) ≤ 24
  rotate_left
  · have HN : Hid (mineB J xs = false) := Lib.hid (by unfold mineB; rw [decide_eq_false h24]; simp)
    go_enter Try.func44, Try.ntmps44
    go_wp2_with (go_at_call 54; refine (eqb (within_any _ _ _ _) hj).mono ?_; rintro e w' ⟨rfl, rfl⟩)
    go_ret
    exact ⟨ret_bool (by rw [HR.out, HN.out]), by go_grown⟩
  obtain ⟨m, m1, m2, m3⟩ := first_stop (mineP J xs) xs.length
  have HM : Hid (mineB J xs = decide (m = xs.length)) := Lib.hid (by unfold mineB; rw [hj, decide_eq_true h24, allUp_stop m1 m2 m3]; rfl)
  have M2 := Lib.hid m2
  have M3 := Lib.hid m3
  clear m2 m3
  go_enter Try.func44, Try.ntmps44
  go_wp2_with (go_at_call 54; refine (eqb (within_any _ _ _ _) hj).mono ?_; rintro e w' ⟨rfl, rfl⟩)
  go_loopw [18] (fun i wr => ∃ q : Nat, q ≤ m ∧ i = .int .i64 q ∧ Below w.heap.size w wr ∧ w.heap.size < wr.heap.size ∧ wr.cell? ⟨w.heap.size, 0, none⟩ = some (.int .i64 J) ∧ wr.cell? ⟨w.heap.size, 1, none⟩ = some (.slice A xs.length cp)) (fun i _ => xs.length - (intOf i).toNat)
  case atStart => exact ⟨0, Nat.zero_le _, rfl, by go_grown, by simp, by simp, by simp⟩
  case round =>
    obtain ⟨q, hq, rfl, hb, hz, m0, m1'⟩ := hrel
    by_cases hlt : q < xs.length
    · obtain ⟨⟨s, f, t, l, c, r, k⟩, hx⟩ : ∃ x, xs.getD q aNone = x := ⟨_, rfl⟩
      obtain ⟨b, o, rfl, hab, c0, c1, c2, c3, c4, c5, c6⟩ := (J0.out.below hb).cells7 hlt hx
      have hs : s.size ≤ maxLen := by have := HL.out q; rw [hx] at this; exact this
      have i0 : (0 : Int) ≤ (q : Int) := by omega
      have i1 : (q : Int) < xs.length := by omega
      have e0 := fun L : Later (wr.alloc (.cells #[.string s, .int .i64 f, .int .i64 t, .int .i64 l, .int .i64 c, .int .i64 r, .int .i64 k] 92)) => L.cell (p := ⟨wr.heap.size, 0, none⟩) (v := .string s) (by simp)
      have e1 := fun L : Later (wr.alloc (.cells #[.string s, .int .i64 f, .int .i64 t, .int .i64 l, .int .i64 c, .int .i64 r, .int .i64 k] 92)) => L.cell (p := ⟨wr.heap.size, 1, none⟩) (v := .int .i64 f) (by simp)
      have e2 := fun L : Later (wr.alloc (.cells #[.string s, .int .i64 f, .int .i64 t, .int .i64 l, .int .i64 c, .int .i64 r, .int .i64 k] 92)) => L.cell (p := ⟨wr.heap.size, 2, none⟩) (v := .int .i64 t) (by simp)
      have e3 := fun L : Later (wr.alloc (.cells #[.string s, .int .i64 f, .int .i64 t, .int .i64 l, .int .i64 c, .int .i64 r, .int .i64 k] 92)) => L.cell (p := ⟨wr.heap.size, 3, none⟩) (v := .int .i64 l) (by simp)
      have e4 := fun L : Later (wr.alloc (.cells #[.string s, .int .i64 f, .int .i64 t, .int .i64 l, .int .i64 c, .int .i64 r, .int .i64 k] 92)) => L.cell (p := ⟨wr.heap.size, 4, none⟩) (v := .int .i64 c) (by simp)
      have e5 := fun L : Later (wr.alloc (.cells #[.string s, .int .i64 f, .int .i64 t, .int .i64 l, .int .i64 c, .int .i64 r, .int .i64 k] 92)) => L.cell (p := ⟨wr.heap.size, 5, none⟩) (v := .int .i64 r) (by simp)
      have e6 := fun L : Later (wr.alloc (.cells #[.string s, .int .i64 f, .int .i64 t, .int .i64 l, .int .i64 c, .int .i64 r, .int .i64 k] 92)) => L.cell (p := ⟨wr.heap.size, 6, none⟩) (v := .int .i64 k) (by simp)
      have g0 := fun L : Later (wr.alloc (.cells #[.string s, .int .i64 f, .int .i64 t, .int .i64 l, .int .i64 c, .int .i64 r, .int .i64 k] 92)) => L.cell (Lib.cell?_alloc_some _ m0)
      have g1 := fun L : Later (wr.alloc (.cells #[.string s, .int .i64 f, .int .i64 t, .int .i64 l, .int .i64 c, .int .i64 r, .int .i64 k] 92)) => L.cell (Lib.cell?_alloc_some _ m1')
      have HV := Lib.hid (fun W => ValidAirway_i s f t l c r k W hs)
      have HE := Lib.hid (fun W => hasEnds_any J (some ⟨b, o, none⟩) cp xs.length s f t l c r k W j1 j2)
      have hba : Below w.heap.size w (wr.alloc (.cells #[.string s, .int .i64 f, .int .i64 t, .int .i64 l, .int .i64 c, .int .i64 r, .int .i64 k] 92)) := hb.alloc (by omega) _
      by_cases hqm : q < m
      · have hp := M2.out q hqm
        unfold mineP at hp
        simp only [Bool.and_eq_true] at hp
        obtain ⟨p1, p2, p3⟩ := hp
        rw [hx] at p1 p2
        have p1 : airwayB s f t l c r k = true := p1
        have p2 : (inB f 0 (J - 1) && inB t 0 (J - 1)) = true := p2
        rw [p1] at HV
        rw [p2] at HE
        by_cases hq0 : q = 0
        · have hz0 : decide (0 < q) = false := decide_eq_false (by omega)
          clear p1 p2 p3 hx hq0
          go_wp2
          refine wp_region_later (by kernel_rfl) (by kernel_rfl) ?_
          repeat (go_big_quiet_step ((first | (go_at_call 91; first | (with_reducible exact later_b (HV.out _)) | (with_reducible exact later_d (HV.out _)) | (with_reducible exact later_s (HV.out _))) | (go_at_call 92; first | (with_reducible exact later_b (HE.out _)) | (with_reducible exact later_d (HE.out _)) | (with_reducible exact later_s (HE.out _))))))
          refine wpQuiet_nil ?_
          intro _ hw'
          obtain ⟨LL, hw''⟩ := hw'
          subst hw''
          go_wp2
          go_roundw
          case rel =>
            have hl : wr.heap.size + 1 ≤ LL.world.heap.size := by have := LL.size; simpa using this
            exact ⟨q + 1, by omega, by go_num, hba.trans (LL.below.mono (by simp; omega)), by omega, g0 LL, g1 LL⟩
          case measure => simp [intOf]; omega
        · obtain ⟨p, hp⟩ : ∃ p, q = p + 1 := ⟨q - 1, by omega⟩
          have hz0 : decide (0 < q) = true := decide_eq_true (by omega)
          obtain ⟨⟨s', f', t', l', c', r', k'⟩, hx'⟩ : ∃ x, xs.getD p aNone = x := ⟨_, rfl⟩
          obtain ⟨b', o', hbo, _, d0, -⟩ := (J0.out.below hb).cells7 (j := p) (by omega) hx'
          cases hbo
          rw [hp, ordB_succ, ← hp, hx, hx'] at p3
          have p3 : Op.bytesLess s'.toList s.toList = true := p3
          obtain ⟨o1, o2⟩ := (less_flip s'.toList s.toList).1 p3
          have g2 := fun L : Later (wr.alloc (.cells #[.string s, .int .i64 f, .int .i64 t, .int .i64 l, .int .i64 c, .int .i64 r, .int .i64 k] 92)) => L.cell (Lib.cell?_alloc_some _ d0)
          have w0 : (0 : Int) ≤ (p : Int) := by omega
          have w1 : (p : Int) < xs.length := by omega
          have hw : IntKind.i64.wrap ((q : Int) - 1) = (p : Int) := by rw [IntWalk.i64_in _ (by omega)]; omega
          clear p1 p2 p3 hx hx' hp hq0
          go_wp2
          refine wp_region_later (by kernel_rfl) (by kernel_rfl) ?_
          repeat (go_big_quiet_step ((first | (go_at_call 91; first | (with_reducible exact later_b (HV.out _)) | (with_reducible exact later_d (HV.out _)) | (with_reducible exact later_s (HV.out _))) | (go_at_call 92; first | (with_reducible exact later_b (HE.out _)) | (with_reducible exact later_d (HE.out _)) | (with_reducible exact later_s (HE.out _))))))
          refine wpQuiet_nil ?_
          intro _ hw'
          obtain ⟨LL, hw''⟩ := hw'
          subst hw''
          clear hw
          go_wp2
          go_roundw
          case rel =>
            have hl : wr.heap.size + 1 ≤ LL.world.heap.size := by have := LL.size; simpa using this
            exact ⟨q + 1, by omega, by go_num, hba.trans (LL.below.mono (by simp; omega)), by omega, g0 LL, g1 LL⟩
          case measure => simp [intOf]; omega
      · obtain rfl : m = q := by omega
        have HD := Lib.hid (decide_eq_false (show ¬ m = xs.length by omega))
        have hp := M3.out hlt
        unfold mineP at hp
        rw [hx] at hp
        have hp : (airwayB s f t l c r k && ((inB f 0 (J - 1) && inB t 0 (J - 1)) && ordB xs m)) = false := hp
        cases p1 : airwayB s f t l c r k
        · rw [p1] at HV
          clear p1 hp hx
          go_wp2
          refine wp_region_later (by kernel_rfl) (by kernel_rfl) ?_
          repeat (go_big_quiet_step ((go_at_call 91; first | (with_reducible exact later_b (HV.out _)) | (with_reducible exact later_d (HV.out _)) | (with_reducible exact later_s (HV.out _)))))
          refine wpQuiet_nil ?_
          intro _ hw'
          obtain ⟨LL, hw''⟩ := hw'
          subst hw''
          go_wp2
          go_ret
          exact ⟨ret_bool (by rw [HR.out, HM.out, HD.out]), hba.trans (LL.below.mono (by simp; omega))⟩
        · rw [p1] at HV hp
          cases p2 : (inB f 0 (J - 1) && inB t 0 (J - 1))
          · rw [p2] at HE
            clear p1 p2 hp hx
            go_wp2
            refine wp_region_later (by kernel_rfl) (by kernel_rfl) ?_
            repeat (go_big_quiet_step ((first | (go_at_call 91; first | (with_reducible exact later_b (HV.out _)) | (with_reducible exact later_d (HV.out _)) | (with_reducible exact later_s (HV.out _))) | (go_at_call 92; first | (with_reducible exact later_b (HE.out _)) | (with_reducible exact later_d (HE.out _)) | (with_reducible exact later_s (HE.out _))))))
            refine wpQuiet_nil ?_
            intro _ hw'
            obtain ⟨LL, hw''⟩ := hw'
            subst hw''
            go_wp2
            go_ret
            exact ⟨ret_bool (by rw [HR.out, HM.out, HD.out]), hba.trans (LL.below.mono (by simp; omega))⟩
          · rw [p2, Bool.true_and, Bool.true_and] at hp
            rw [p2] at HE
            have hq0 : m ≠ 0 := fun e => by rw [e] at hp; simp [ordB] at hp
            obtain ⟨p, hpm⟩ : ∃ p, m = p + 1 := ⟨m - 1, by omega⟩
            have hz0 : decide (0 < m) = true := decide_eq_true (by omega)
            obtain ⟨⟨s', f', t', l', c', r', k'⟩, hx'⟩ : ∃ x, xs.getD p aNone = x := ⟨_, rfl⟩
            obtain ⟨b', o', hbo, _, d0, -⟩ := (J0.out.below hb).cells7 (j := p) (by omega) hx'
            cases hbo
            rw [hpm, ordB_succ, ← hpm, hx, hx'] at hp
            have p3 : Op.bytesLess s'.toList s.toList = false := hp
            have g2 := fun L : Later (wr.alloc (.cells #[.string s, .int .i64 f, .int .i64 t, .int .i64 l, .int .i64 c, .int .i64 r, .int .i64 k] 92)) => L.cell (Lib.cell?_alloc_some _ d0)
            have w0 : (0 : Int) ≤ (p : Int) := by omega
            have w1 : (p : Int) < xs.length := by omega
            have hw : IntKind.i64.wrap ((m : Int) - 1) = (p : Int) := by rw [IntWalk.i64_in _ (by omega)]; omega
            rcases (less_flip s'.toList s.toList).2 p3 with o1 | ⟨o1, o2⟩
            · clear p1 p2 p3 hx hx' hpm hq0 hp
              go_wp2
              refine wp_region_later (by kernel_rfl) (by kernel_rfl) ?_
              repeat (go_big_quiet_step ((first | (go_at_call 91; first | (with_reducible exact later_b (HV.out _)) | (with_reducible exact later_d (HV.out _)) | (with_reducible exact later_s (HV.out _))) | (go_at_call 92; first | (with_reducible exact later_b (HE.out _)) | (with_reducible exact later_d (HE.out _)) | (with_reducible exact later_s (HE.out _))))))
              refine wpQuiet_nil ?_
              intro _ hw'
              obtain ⟨LL, hw''⟩ := hw'
              subst hw''
              clear hw
              go_wp2
              go_ret
              exact ⟨ret_bool (by rw [HR.out, HM.out, HD.out]), hba.trans (LL.below.mono (by simp; omega))⟩
            · clear p1 p2 p3 hx hx' hpm hq0 hp
              go_wp2
              refine wp_region_later (by kernel_rfl) (by kernel_rfl) ?_
              repeat (go_big_quiet_step ((first | (go_at_call 91; first | (with_reducible exact later_b (HV.out _)) | (with_reducible exact later_d (HV.out _)) | (with_reducible exact later_s (HV.out _))) | (go_at_call 92; first | (with_reducible exact later_b (HE.out _)) | (with_reducible exact later_d (HE.out _)) | (with_reducible exact later_s (HE.out _))))))
              refine wpQuiet_nil ?_
              intro _ hw'
              obtain ⟨LL, hw''⟩ := hw'
              subst hw''
              clear hw
              go_wp2
              go_ret
              exact ⟨ret_bool (by rw [HR.out, HM.out, HD.out]), hba.trans (LL.below.mono (by simp; omega))⟩
    · have HD := Lib.hid (decide_eq_true (show m = xs.length by omega))
      go_wp2
      go_ret
      exact ⟨ret_bool (by rw [HR.out, HM.out, HD.out]), hb⟩
theorem l04Junction_any (b o : Nat) (J x : Int) (w : World) (h1 : 1 ≤ J) (h2 : J ≤ 16) (c0 : w.cell? ⟨b, o, none⟩ = some (.int .i64 J)) :
    Calls Try.prog 50 #[.pointer (some ⟨b, o, none⟩), .int .i64 x] w fun e w' => e = .returned (.bool (inB x 0 (J - 1))) ∧ w = w' := by
  go_enter Try.func50, Try.ntmps50
  go_wp2_with (go_at_call 60; refine (l00In_any _ _ _ _).mono ?_; rintro e w' ⟨rfl, rfl⟩)
  go_ret
  exact ⟨rfl, rfl⟩
theorem toMine_any (J : Int) (A : Option Addr) (cp : Nat) (xs : List Aw) (B : Nat) (w : World) (hn : xs.length ≤ 1048576) (hI : Recs encA 7 B w A xs) (hB : B ≤ w.heap.size) :
    Calls Try.prog 12 #[.agg #[.int .i64 J, .slice A xs.length cp]] w fun e w' => ∃ v, e = .returned (.agg #[.int .i64 J, v]) ∧ OwnR 92 encA 7 w.heap.size w' v xs ∧ Below w.heap.size w w' := by
  have J0 := Lib.hid (hI.more hB)
  clear hI
  have hb0 : Below w.heap.size w (((w.alloc (.cells #[.int .i64 J, .slice A xs.length cp] 24)).alloc (.cells #[.int .i64 0, .slice none 0 0] 31)).alloc (.cells #[.int .i64 J, .slice none 0 0] 31)) := by go_grown
  have HB := Lib.hid hb0
  clear hb0
  go_enter Try.func12, Try.ntmps12
  go_wp2_with fail
  refine (toAirwayS_any A cp xs w.heap.size _ hn (J0.out.below HB.out) (by simp <;> omega)).mono ?_
  rintro e w1 ⟨rfl, ho, hb1⟩
  obtain ⟨hc1, hf1⟩ := bcell hb1
  have hz : w.heap.size + 1 + 1 < w1.heap.size := by have := hb1.size; simp at this; omega
  have hbe := HB.out.trans (hb1.mono (by simp <;> omega))
  have HO := Lib.hid ho
  have q1 : w.heap.size + 1 < (((w.alloc (.cells #[.int .i64 J, .slice A xs.length cp] 24)).alloc (.cells #[.int .i64 0, .slice none 0 0] 31)).alloc (.cells #[.int .i64 J, .slice none 0 0] 31)).heap.size := by simp
  have q2 : w.heap.size + 1 + 1 < (((w.alloc (.cells #[.int .i64 J, .slice A xs.length cp] 24)).alloc (.cells #[.int .i64 0, .slice none 0 0] 31)).alloc (.cells #[.int .i64 J, .slice none 0 0] 31)).heap.size := by simp
  have d0 : w1.cell? ⟨w.heap.size + 1 + 1, 0, none⟩ = some (.int .i64 J) := by rw [hc1 _ _ q2]; go_simp
  have d1 : w1.cell? ⟨w.heap.size + 1 + 1, 1, none⟩ = some (.slice none 0 0) := by rw [hc1 _ _ q2]; go_simp
  have d2 : w1.cell? ⟨w.heap.size + 1, 0, none⟩ = some (.int .i64 0) := by rw [hc1 _ _ q1]; go_simp
  have d3 : w1.cell? ⟨w.heap.size + 1, 1, none⟩ = some (.slice none 0 0) := by rw [hc1 _ _ q1]; go_simp
  have f1 : w1.frozen? ⟨w.heap.size + 1 + 1, 1, none⟩ = false := by rw [hf1 _ _ q2]; go_simp
  have f2 : w1.frozen? ⟨w.heap.size + 1, 0, none⟩ = false := by rw [hf1 _ _ q1]; go_simp
  have f3 : w1.frozen? ⟨w.heap.size + 1, 1, none⟩ = false := by rw [hf1 _ _ q1]; go_simp
  clear hc1 hf1 hb1 ho q1 q2
  go_wp2_with fail
  have t2 := (World.cell?_setCell_other w1 ⟨w.heap.size + 1 + 1, 1, none⟩ ⟨w.heap.size + 1, 0, none⟩ (.slice (some ⟨w.heap.size + 1 + 1 + 1, 0, none⟩) xs.length xs.length) (by simp)).trans d2
  have t3 := (World.cell?_setCell_other w1 ⟨w.heap.size + 1 + 1, 1, none⟩ ⟨w.heap.size + 1, 1, none⟩ (.slice (some ⟨w.heap.size + 1 + 1 + 1, 0, none⟩) xs.length xs.length) (by simp)).trans d3
  have u2 := setc_eq (v := .int .i64 J) t2
  have u3 := setc_ne (v := .int .i64 J) t3 (show 0 ≠ 1 by decide)
  have r0 := setc_ne (v := .slice (some ⟨w.heap.size + 1 + 1 + 1, 0, none⟩) xs.length xs.length) u2 (show 1 ≠ 0 by decide)
  have r1 := setc_eq (v := .slice (some ⟨w.heap.size + 1 + 1 + 1, 0, none⟩) xs.length xs.length) u3
  refine bodyPost_ret (v := .agg #[.int .i64 J, .slice (some ⟨w.heap.size + 1 + 1 + 1, 0, none⟩) xs.length xs.length]) (by simp [results, Try.results12, go_sem, r0, r1]) rfl ⟨_, rfl, ?_, ((hbe.setCell (by simp <;> omega) _).setCell (by simp) _).setCell (by simp) _⟩
  have h := HO.out
  unfold OwnR at h ⊢
  have h1 := ownsRow_setCell_below h (a := ⟨w.heap.size + 1 + 1, 1, none⟩) (by simp) (.slice (some ⟨w.heap.size + 1 + 1 + 1, 0, none⟩) xs.length xs.length)
  have h2 := ownsRow_setCell_below h1 (a := ⟨w.heap.size + 1, 0, none⟩) (by simp <;> omega) (.int .i64 J)
  have h3 := ownsRow_setCell_below h2 (a := ⟨w.heap.size + 1, 1, none⟩) (by simp <;> omega) (.slice (some ⟨w.heap.size + 1 + 1 + 1, 0, none⟩) xs.length xs.length)
  have h4 := OwnR.rebase (b' := w.heap.size) h3 (by simp <;> omega)
  unfold OwnR at h4
  simpa using h4
theorem szMine_any (J : Int) (A : Option Addr) (cp : Nat) (xs : List Aw) (left : Int) (B : Nat) (w : World) (h1 : 0 ≤ left) (h0 : left ≤ 1048576) (hn : xs.length ≤ maxLen) (hF : FitsA xs) (hI : Recs encA 7 B w A xs) (hB : B ≤ w.heap.size) :
    Calls Try.prog 10 #[.agg #[.int .i64 J, .slice A xs.length cp], .int .i64 left] w fun e w' => e = .returned (.int .i64 (szA xs left)) ∧ Below w.heap.size w w' := by
  have HS := Lib.hid (fun (W : World) (hb : Below w.heap.size w W) => szAirwayS_any A cp xs left w.heap.size W h1 h0 hn hF ((hI.more hB).below hb) hb.size)
  have hor : szA xs left = -1 ∨ 0 ≤ szA xs left := by unfold szA; split <;> omega
  generalize szA xs left = r at *
  clear hI hF
  rcases hor with rfl | hr
  · go_enter Try.func10, Try.ntmps10
    go_wp2_with fail
    refine (HS.out _ (by go_grown)).mono ?_
    rintro e w1 ⟨rfl, hb1⟩
    obtain ⟨hc1, hf1⟩ := bcell hb1
    have q1_0 : w.heap.size < w1.heap.size := by have := hb1.size; simp at this; omega
    have be1 : Below w.heap.size w w1 := ((Below.refl w.heap.size w).alloc (by simp) _).trans (hb1.mono (by simp))
    have hbe := be1
    go_wp2_with fail
    go_ret
    exact ⟨rfl, hbe⟩
  · go_enter Try.func10, Try.ntmps10
    go_wp2_with fail
    refine (HS.out _ (by go_grown)).mono ?_
    rintro e w1 ⟨rfl, hb1⟩
    obtain ⟨hc1, hf1⟩ := bcell hb1
    have q1_0 : w.heap.size < w1.heap.size := by have := hb1.size; simp at this; omega
    have be1 : Below w.heap.size w w1 := ((Below.refl w.heap.size w).alloc (by simp) _).trans (hb1.mono (by simp))
    have hbe := be1
    go_wp2_with fail
    go_ret
    exact ⟨rfl, hbe⟩
theorem eqMine_yes (J : Int) (A A' : Option Addr) (cp cp' : Nat) (xs : List Aw) (B B' : Nat) (w : World) (hn : xs.length ≤ 1099511627776) (hI : Recs encA 7 B w A xs) (hI' : Recs encA 7 B' w A' xs) (hB : B ≤ w.heap.size) (hB' : B' ≤ w.heap.size) :
    Calls Try.prog 16 #[.agg #[.int .i64 J, .slice A xs.length cp], .agg #[.int .i64 J, .slice A' xs.length cp']] w fun e w' => e = .returned (.bool true) ∧ Below w.heap.size w w' := by
  have HS := Lib.hid (fun (W : World) (hb : Below w.heap.size w W) => eqAirwayS_yes A A' cp cp' xs w.heap.size w.heap.size W hn ((hI.more hB).below hb) ((hI'.more hB').below hb) hb.size hb.size)
  clear hI hI'
  go_enter Try.func16, Try.ntmps16
  go_wp2_with fail
  refine (HS.out _ (by go_grown)).mono ?_
  rintro e w1 ⟨rfl, hb1⟩
  obtain ⟨hc1, hf1⟩ := bcell hb1
  have q1_1 : w.heap.size + 1 < w1.heap.size := by have := hb1.size; simp at this; omega
  have q1_0 : w.heap.size < w1.heap.size := by have := hb1.size; simp at this; omega
  have be1 : Below w.heap.size w w1 := (((Below.refl w.heap.size w).alloc (by simp) _).alloc (by simp) _).trans (hb1.mono (by simp <;> omega))
  have hbe := be1
  go_wp2_with fail
  go_ret
  exact ⟨rfl, hbe⟩
set_option maxRecDepth 100000 in
set_option maxHeartbeats 6400000 in
theorem l04Ok_any (bm om : Nat) (J : Int) (A : Option Addr) (cp : Nat) (xs : List Aw) (B : Nat) (w : World) (hn : (xs.length : Int) ≤ 1099511627776) (hF : FitsA xs) (hI : Recs encA 7 B w A xs) (m0 : w.cell? ⟨bm, om, none⟩ = some (.int .i64 J)) (mm : w.cell? ⟨bm, om + 1, none⟩ = some (.slice A xs.length cp)) :
    Calls Try.prog 39 #[.pointer (some ⟨bm, om, none⟩)] w fun e w' => e = .returned (.bool (mineB J xs)) ∧ ∃ n, w.drewN n = w' := by
  obtain ⟨R, hR⟩ : ∃ R, R = mineB J xs := ⟨_, rfl⟩
  rw [← hR]
  have HR := Lib.hid hR
  clear hR
  have J0 := Lib.hid hI
  have HL := Lib.hid hF.id
  clear hI hF
  cases hj : inB J 1 16
  · have HN : Hid (mineB J xs = false) := Lib.hid (by unfold mineB; rw [hj]; rfl)
    go_enter Try.func39, Try.ntmps39
    go_wp2_with (go_at_call 60; refine (eqb (l00In_any _ _ _ _) hj).mono ?_; rintro e w' ⟨rfl, rfl⟩)
    go_ret
    exact ⟨ret_bool (by rw [HR.out, HN.out]), 0, rfl⟩
  obtain ⟨j1, j2⟩ := inB_iff.1 hj
  obtain ⟨m, m1, m2, m3⟩ := first_stop (mineP J xs) xs.length
  have HM : Hid (mineB J xs = (decide ((xs.length : Int) ≤ 24) && decide (m = xs.length))) := Lib.hid (by unfold mineB; rw [hj, allUp_stop m1 m2 m3]; rfl)
  have M2 := Lib.hid m2
  have M3 := Lib.hid m3
  clear m2 m3
  go_enter Try.func39, Try.ntmps39
  go_wp2_with (go_at_call 60; refine (eqb (l00In_any _ _ _ _) hj).mono ?_; rintro e w' ⟨rfl, rfl⟩)
  go_loopw [3] (fun i wr => ∃ q : Nat, q ≤ m ∧ i = .int .i64 q ∧ ∃ n, w.drewN n = wr) (fun i _ => xs.length - (intOf i).toNat)
  case atStart => exact ⟨0, Nat.zero_le _, rfl, 0, rfl⟩
  case round =>
    obtain ⟨q, hq, rfl, n, rfl⟩ := hrel
    by_cases hlt : q < xs.length
    · obtain ⟨⟨s, f, t, l, c, r, k⟩, hx⟩ : ∃ x, xs.getD q aNone = x := ⟨_, rfl⟩
      obtain ⟨b, o, rfl, hab, c0, c1, c2, c3, c4, c5, c6⟩ := J0.out.cells7 hlt hx
      have hs : s.size ≤ maxLen := by have := HL.out q; rw [hx] at this; exact this
      have i0 : (0 : Int) ≤ (q : Int) := by omega
      have i1 : (q : Int) < xs.length := by omega
      have HV := Lib.hid (fun n => l03Ok_any b (o + q * 7) s f t l c r k (w.drewN n) hs (by simpa using c0) (by simpa using c1) (by simpa using c2) (by simpa using c3) (by simpa using c4) (by simpa using c5) (by simpa using c6))
      have HJ := Lib.hid (fun x n => l04Junction_any bm om J x (w.drewN n) j1 j2 (by simpa using m0))
      by_cases hqm : q < m
      · have hp := M2.out q hqm
        unfold mineP at hp
        simp only [Bool.and_eq_true] at hp
        obtain ⟨p1, p2, p3⟩ := hp
        rw [hx] at p1 p2
        have p1 : airwayB s f t l c r k = true := p1
        have p2 : (inB f 0 (J - 1) && inB t 0 (J - 1)) = true := p2
        rw [Bool.and_eq_true] at p2
        have HV := Lib.hid (fun n => eqbd (HV.out n) p1)
        have HF := Lib.hid (fun n => eqb (HJ.out f n) p2.1)
        have HT := Lib.hid (fun n => eqb (HJ.out t n) p2.2)
        by_cases hq0 : q = 0
        · have hz0 : decide (0 < q) = false := decide_eq_false (by omega)
          clear p1 p2 p3 hx hq0
          go_wp2
          go_big_quiet ((first | (go_at_call 87; first | (with_reducible exact quiet_d (HV.out _)) | (with_reducible exact quiet_d2 (HV.out _))) | (go_at_call 50; first | (with_reducible exact quiet_s (HF.out _)) | (with_reducible exact quiet_s2 (HF.out _))) | (go_at_call 50; first | (with_reducible exact quiet_s (HT.out _)) | (with_reducible exact quiet_s2 (HT.out _)))))
          go_wp2
          go_roundw
          case rel => exact ⟨q + 1, by omega, by go_num, _, rfl⟩
          case measure => simp [intOf]; omega
        · obtain ⟨p, hpq⟩ : ∃ p, q = p + 1 := ⟨q - 1, by omega⟩
          have hz0 : decide (0 < q) = true := decide_eq_true (by omega)
          obtain ⟨⟨s', f', t', l', c', r', k'⟩, hx'⟩ : ∃ x, xs.getD p aNone = x := ⟨_, rfl⟩
          obtain ⟨b', o', hbo, _, d0, -⟩ := J0.out.cells7 (j := p) (by omega) hx'
          cases hbo
          rw [hpq, ordB_succ, ← hpq, hx, hx'] at p3
          have p3 : Op.bytesLess s'.toList s.toList = true := p3
          have w0 : (0 : Int) ≤ (p : Int) := by omega
          have w1 : (p : Int) < xs.length := by omega
          have hw : IntKind.i64.wrap ((q : Int) - 1) = (p : Int) := by rw [IntWalk.i64_in _ (by omega)]; omega
          clear p1 p2 hx hx' hpq hq0
          go_wp2
          go_big_quiet (first | (go_at_call 87; first | (with_reducible exact quiet_d (HV.out _)) | (with_reducible exact quiet_d2 (HV.out _))) | (go_at_call 50; first | (with_reducible exact quiet_s (HF.out _)) | (with_reducible exact quiet_s2 (HF.out _))) | (go_at_call 50; first | (with_reducible exact quiet_s (HT.out _)) | (with_reducible exact quiet_s2 (HT.out _))))
          clear hw
          go_wp2
          go_roundw
          case rel => exact ⟨q + 1, by omega, by go_num, _, rfl⟩
          case measure => simp [intOf]; omega
      · obtain rfl : m = q := by omega
        have HD := Lib.hid (decide_eq_false (show ¬ m = xs.length by omega))
        have hp := M3.out hlt
        unfold mineP at hp
        rw [hx] at hp
        have hp : (airwayB s f t l c r k && ((inB f 0 (J - 1) && inB t 0 (J - 1)) && ordB xs m)) = false := hp
        cases p1 : airwayB s f t l c r k
        · have HV := Lib.hid (fun n => eqbd (HV.out n) p1)
          clear p1 hp hx
          go_wp2
          go_big_quiet ((go_at_call 87; first | (with_reducible exact quiet_d (HV.out _)) | (with_reducible exact quiet_d2 (HV.out _))))
          go_wp2
          go_ret
          exact ⟨ret_bool (by rw [HR.out, HM.out, HD.out, Bool.and_false]), _, (World.drewN_drewN _ _ _).symm⟩
        · have HV := Lib.hid (fun n => eqbd (HV.out n) p1)
          rw [p1, Bool.true_and] at hp
          cases p2 : inB f 0 (J - 1)
          · have HF := Lib.hid (fun n => eqb (HJ.out f n) p2)
            clear p1 p2 hp hx
            go_wp2
            go_big_quiet (first | (go_at_call 87; first | (with_reducible exact quiet_d (HV.out _)) | (with_reducible exact quiet_d2 (HV.out _))) | (go_at_call 50; first | (with_reducible exact quiet_s (HF.out _)) | (with_reducible exact quiet_s2 (HF.out _))))
            go_wp2
            go_ret
            exact ⟨ret_bool (by rw [HR.out, HM.out, HD.out, Bool.and_false]), _, (World.drewN_drewN _ _ _).symm⟩
          · have HF := Lib.hid (fun n => eqb (HJ.out f n) p2)
            rw [p2, Bool.true_and] at hp
            cases p4 : inB t 0 (J - 1)
            · have HT := Lib.hid (fun n => eqb (HJ.out t n) p4)
              clear p1 p2 p4 hp hx
              go_wp2
              go_big_quiet (first | (go_at_call 87; first | (with_reducible exact quiet_d (HV.out _)) | (with_reducible exact quiet_d2 (HV.out _))) | (go_at_call 50; first | (with_reducible exact quiet_s (HF.out _)) | (with_reducible exact quiet_s2 (HF.out _))) | (go_at_call 50; first | (with_reducible exact quiet_s (HT.out _)) | (with_reducible exact quiet_s2 (HT.out _))))
              go_wp2
              go_ret
              exact ⟨ret_bool (by rw [HR.out, HM.out, HD.out, Bool.and_false]), _, (World.drewN_drewN _ _ _).symm⟩
            · have HT := Lib.hid (fun n => eqb (HJ.out t n) p4)
              rw [p4, Bool.true_and] at hp
              have hq0 : m ≠ 0 := fun e => by rw [e] at hp; simp [ordB] at hp
              obtain ⟨p, hpq⟩ : ∃ p, m = p + 1 := ⟨m - 1, by omega⟩
              have hz0 : decide (0 < m) = true := decide_eq_true (by omega)
              obtain ⟨⟨s', f', t', l', c', r', k'⟩, hx'⟩ : ∃ x, xs.getD p aNone = x := ⟨_, rfl⟩
              obtain ⟨b', o', hbo, _, d0, -⟩ := J0.out.cells7 (j := p) (by omega) hx'
              cases hbo
              rw [hpq, ordB_succ, ← hpq, hx, hx'] at hp
              have p3 : Op.bytesLess s'.toList s.toList = false := hp
              have w0 : (0 : Int) ≤ (p : Int) := by omega
              have w1 : (p : Int) < xs.length := by omega
              have hw : IntKind.i64.wrap ((m : Int) - 1) = (p : Int) := by rw [IntWalk.i64_in _ (by omega)]; omega
              clear p1 p2 p4 hp hx hx' hpq hq0
              go_wp2
              go_big_quiet (first | (go_at_call 87; first | (with_reducible exact quiet_d (HV.out _)) | (with_reducible exact quiet_d2 (HV.out _))) | (go_at_call 50; first | (with_reducible exact quiet_s (HF.out _)) | (with_reducible exact quiet_s2 (HF.out _))) | (go_at_call 50; first | (with_reducible exact quiet_s (HT.out _)) | (with_reducible exact quiet_s2 (HT.out _))))
              clear hw
              go_wp2
              go_ret
              exact ⟨ret_bool (by rw [HR.out, HM.out, HD.out, Bool.and_false]), _, (World.drewN_drewN _ _ _).symm⟩
    · have HD := Lib.hid (decide_eq_true (show m = xs.length by omega))
      by_cases h24 : (xs.length : Int) ≤ 24
      · have H4 := Lib.hid (decide_eq_true h24)
        go_wp2
        go_ret
        exact ⟨ret_bool (by rw [HR.out, HM.out, HD.out, H4.out]; rfl), _, rfl⟩
      · have H4 := Lib.hid (decide_eq_false h24)
        go_wp2
        go_ret
        exact ⟨ret_bool (by rw [HR.out, HM.out, HD.out, H4.out]; rfl), _, rfl⟩
end Go.Proofs.Ytlgagnbnjfneaaa
