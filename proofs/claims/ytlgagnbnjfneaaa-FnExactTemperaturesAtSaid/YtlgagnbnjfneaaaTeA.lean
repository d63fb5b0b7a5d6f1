/- Temperatures at junctions: what the reference asks of its arguments. Conditions: the facts on memory and on lengths that each theorem names. -/
import Derived.Test.YtlgagnbnjfneaaaTeW
namespace Go.Proofs.Ytlgagnbnjfneaaa
open Go.RowKit
open Pl
theorem tcode_one {J : Int} {xs : List Aw} {fs rs ps su : List Int} {t q : Int} (h : mineB J xs = false) : tcode J xs fs rs ps su t q = 1 := by unfold tcode; rw [h]; rfl
theorem tcode_two {J : Int} {xs : List Aw} {fs rs ps su : List Int} {t q : Int} (h : mineB J xs = true) (h' : (lstB xs.length fs rs ps && oneB J su t q) = false) : tcode J xs fs rs ps su t q = 2 := by
  unfold tcode
  rw [h]
  cases h1 : lstB xs.length fs rs ps
  · rfl
  · rw [h1] at h'
    have h' : oneB J su t q = false := h'
    rw [h']
    rfl
theorem tcode_yes {J : Int} {xs : List Aw} {fs rs ps su : List Int} {t q : Int} (h : mineB J xs = true) (h' : (lstB xs.length fs rs ps && oneB J su t q) = true) : tcode J xs fs rs ps su t q = 0 := by
  rw [Bool.and_eq_true] at h'
  unfold tcode
  rw [h, h'.1, h'.2]
  rfl
theorem tcode_zero {J : Int} {xs : List Aw} {fs rs ps su : List Int} {t q : Int} (h : tcode J xs fs rs ps su t q = 0) : mineB J xs = true ∧ lstB xs.length fs rs ps = true ∧ oneB J su t q = true := by
  cases hm : mineB J xs
  · rw [tcode_one hm] at h; omega
  · cases hb : (lstB xs.length fs rs ps && oneB J su t q)
    · rw [tcode_two hm hb] at h; omega
    · rw [Bool.and_eq_true] at hb
      exact ⟨rfl, hb⟩
def askT (fs rs ps : List Int) (k : Nat) : Bool := inB (fs.getD k 0) (-100000) 100000 && (inB (rs.getD k 0) 0 900 && inB (ps.getD k 0) (-10000000) 10000000)
theorem lstB_up {n : Nat} {fs rs ps : List Int} (h1 : fs.length = n) (h2 : rs.length = n) (h3 : ps.length = n) : lstB n fs rs ps = allUp (askT fs rs ps) n := by
  unfold lstB askT
  rw [allUp_and, allUp_and, allIn_up, allIn_up, allIn_up, h1, h2, h3]
  simp
theorem lstB_len {n : Nat} {fs rs ps : List Int} (h : ¬ ((fs.length : Int) = n ∧ (rs.length : Int) = n ∧ (ps.length : Int) = n)) : lstB n fs rs ps = false := by
  cases hg : lstB n fs rs ps
  · rfl
  · unfold lstB at hg
    simp only [Bool.and_eq_true, decide_eq_true_eq] at hg
    exact absurd ⟨hg.1.1, hg.2.1.1, hg.2.2.1⟩ h
set_option maxRecDepth 100000 in
set_option maxHeartbeats 1600000 in
theorem l16Ask_any (bm om : Nat) (J : Int) (A : Option Addr) (cp : Nat) (xs : List Aw) (A1 : Option Addr) (c1 : Nat) (fs : List Int) (A2 : Option Addr) (c2 : Nat) (rs : List Int) (A3 : Option Addr) (c3 : Nat) (ps : List Int) (A4 : Option Addr) (c4 : Nat) (su : List Int) (t q : Int) (B : Nat) (w : World)
    (hx : (xs.length : Int) ≤ 1048576) (hF : FitsA xs) (hI : Recs encA 7 B w A xs) (_ : (fs.length : Int) ≤ 1048576) (hI1 : Ints B w A1 fs) (_ : (rs.length : Int) ≤ 1048576) (hI2 : Ints B w A2 rs)
    (_ : (ps.length : Int) ≤ 1048576) (hI3 : Ints B w A3 ps) (n4 : (su.length : Int) ≤ 1048576) (hI4 : Ints B w A4 su)
    (m0 : w.cell? ⟨bm, om, none⟩ = some (.int .i64 J)) (mm : w.cell? ⟨bm, om + 1, none⟩ = some (.slice A xs.length cp)) :
    Calls Try.prog 67 #[.pointer (some ⟨bm, om, none⟩), .slice A1 fs.length c1, .slice A2 rs.length c2, .slice A3 ps.length c3, .slice A4 su.length c4, .int .i64 t, .int .i64 q] w fun e w' => e = .returned (.int .i64 (tcode J xs fs rs ps su t q)) ∧ ∃ n, w.drewN n = w' := by
  obtain ⟨R, hR⟩ : ∃ R, R = tcode J xs fs rs ps su t q := ⟨_, rfl⟩
  rw [← hR]
  have HR := Lib.hid hR
  clear hR
  have HV := Lib.hid (l04Ok_any bm om J A cp xs B w (by omega) hF hI m0 mm)
  have J1 := Lib.hid hI1
  have J2 := Lib.hid hI2
  have J3 := Lib.hid hI3
  have H4 := Lib.hid (fun (n : Nat) => l00Rises_any A4 c4 su 0 (J - 1) B (w.drewN n) (by omega) (show Ints B (w.drewN n) A4 su from hI4))
  have H5 := Lib.hid (fun (W : World) => l02Temperature_any t W)
  have H6 := Lib.hid (fun (W : World) => l16Rate_any q W)
  clear hI hI1 hI2 hI3 hI4 hF
  cases hm : mineB J xs
  · have HG := Lib.hid (tcode_one (fs := fs) (rs := rs) (ps := ps) (su := su) (t := t) (q := q) hm)
    rw [hm] at HV
    clear hm
    go_enter Try.func67, Try.ntmps67
    go_wp2_with fail
    refine HV.out.mono ?_
    rintro e _ ⟨rfl, n, rfl⟩
    go_wp2_with fail
    go_ret
    exact ⟨ret_int (by rw [HR.out, HG.out]), _, rfl⟩
  rw [hm] at HV
  obtain ⟨j1, j2⟩ := (mineB_bd hm).1
  have hxn : (xs.length : Int) ≤ 24 := (mineB_bd hm).2.1
  by_cases h1 : (fs.length : Int) = xs.length
  rotate_left
  · have HG := Lib.hid (tcode_two (su := su) (t := t) (q := q) hm (by rw [lstB_len (n := xs.length) (fs := fs) (rs := rs) (ps := ps) (fun x => h1 x.1)]; rfl))
    clear hm
    go_enter Try.func67, Try.ntmps67
    go_wp2_with fail
    refine HV.out.mono ?_
    rintro e _ ⟨rfl, n, rfl⟩
    go_wp2_with fail
    go_ret
    exact ⟨ret_int (by rw [HR.out, HG.out]), _, rfl⟩
  by_cases h2 : (rs.length : Int) = xs.length
  rotate_left
  · have HG := Lib.hid (tcode_two (su := su) (t := t) (q := q) hm (by rw [lstB_len (n := xs.length) (fs := fs) (rs := rs) (ps := ps) (fun x => h2 x.2.1)]; rfl))
    clear hm
    go_enter Try.func67, Try.ntmps67
    go_wp2_with fail
    refine HV.out.mono ?_
    rintro e _ ⟨rfl, n, rfl⟩
    go_wp2_with fail
    go_ret
    exact ⟨ret_int (by rw [HR.out, HG.out]), _, rfl⟩
  by_cases h3 : (ps.length : Int) = xs.length
  rotate_left
  · have HG := Lib.hid (tcode_two (su := su) (t := t) (q := q) hm (by rw [lstB_len (n := xs.length) (fs := fs) (rs := rs) (ps := ps) (fun x => h3 x.2.2)]; rfl))
    clear hm
    go_enter Try.func67, Try.ntmps67
    go_wp2_with fail
    refine HV.out.mono ?_
    rintro e _ ⟨rfl, n, rfl⟩
    go_wp2_with fail
    go_ret
    exact ⟨ret_int (by rw [HR.out, HG.out]), _, rfl⟩
  cases h4 : (allIn su 0 (J - 1) && incB su)
  · have HG := Lib.hid (tcode_two (fs := fs) (rs := rs) (ps := ps) (su := su) (t := t) (q := q) hm (by rw [oneB, surB, Bool.and_comm (incB su), h4]; simp))
    rw [h4] at H4
    clear hm h4
    go_enter Try.func67, Try.ntmps67
    go_wp2_with fail
    refine HV.out.mono ?_
    rintro e _ ⟨rfl, n, rfl⟩
    go_wp2_with fail
    refine (H4.out n).mono ?_
    rintro e _ ⟨rfl, n4, rfl⟩
    go_wp2_with fail
    go_ret
    exact ⟨ret_int (by rw [HR.out, HG.out]), _, rfl⟩
  rw [h4] at H4
  cases h5 : inB t (-100) 600
  · have HG := Lib.hid (tcode_two (fs := fs) (rs := rs) (ps := ps) (su := su) (t := t) (q := q) hm (by rw [oneB, h5]; simp))
    rw [h5] at H5
    clear hm h5
    go_enter Try.func67, Try.ntmps67
    go_wp2_with fail
    refine HV.out.mono ?_
    rintro e _ ⟨rfl, n, rfl⟩
    go_wp2_with fail
    refine (H4.out n).mono ?_
    rintro e _ ⟨rfl, n4, rfl⟩
    go_wp2_with (go_at_call 107; refine (H5.out _).mono ?_; rintro e w' ⟨rfl, rfl⟩)
    go_ret
    exact ⟨ret_int (by rw [HR.out, HG.out]), _, rfl⟩
  rw [h5] at H5
  cases h6 : inB q 0 1000
  · have HG := Lib.hid (tcode_two (fs := fs) (rs := rs) (ps := ps) (su := su) (t := t) (q := q) hm (by rw [oneB, h6]; simp))
    rw [h6] at H6
    clear hm h6
    go_enter Try.func67, Try.ntmps67
    go_wp2_with fail
    refine HV.out.mono ?_
    rintro e _ ⟨rfl, n, rfl⟩
    go_wp2_with fail
    refine (H4.out n).mono ?_
    rintro e _ ⟨rfl, n4, rfl⟩
    go_wp2_with (first | (go_at_call 107; refine (H5.out _).mono ?_; rintro e w' ⟨rfl, rfl⟩) | (go_at_call 108; refine (H6.out _).mono ?_; rintro e w' ⟨rfl, rfl⟩))
    go_ret
    exact ⟨ret_int (by rw [HR.out, HG.out]), _, rfl⟩
  rw [h6] at H6
  have hone : oneB J su t q = true := by unfold oneB surB; rw [Bool.and_comm (incB su), h4, h5, h6]; rfl
  obtain ⟨m, k1, k2, k3⟩ := first_stop (askT fs rs ps) xs.length
  have HG : Hid (tcode J xs fs rs ps su t q = if m = xs.length then 0 else 2) := Lib.hid (by
    have e := (lstB_up (fs := fs) (rs := rs) (ps := ps) (n := xs.length) (by omega) (by omega) (by omega)).trans (allUp_stop k1 k2 k3)
    by_cases h : m = xs.length
    · rw [if_pos h]; exact tcode_yes hm (by rw [e, hone, decide_eq_true h]; rfl)
    · rw [if_neg h]; exact tcode_two hm (by rw [e, hone, decide_eq_false h]; rfl))
  have K2 := Lib.hid k2
  have K3 := Lib.hid k3
  clear k2 k3 hm h4 h5 h6 hone
  go_enter Try.func67, Try.ntmps67
  go_wp2_with fail
  refine HV.out.mono ?_
  rintro e _ ⟨rfl, n, rfl⟩
  go_wp2_with fail
  refine (H4.out n).mono ?_
  rintro e _ ⟨rfl, n4, rfl⟩
  go_wp2_with (first | (go_at_call 107; refine (H5.out _).mono ?_; rintro e w' ⟨rfl, rfl⟩) | (go_at_call 108; refine (H6.out _).mono ?_; rintro e w' ⟨rfl, rfl⟩))
  go_loopw [16] (fun i wr => ∃ j : Nat, j ≤ m ∧ i = .int .i64 j ∧ ∃ n, w.drewN n = wr) (fun i _ => xs.length - (intOf i).toNat)
  case atStart => exact ⟨0, Nat.zero_le _, rfl, _, rfl⟩
  case round =>
    obtain ⟨j, hj, rfl, n, rfl⟩ := hrel
    by_cases hlt : j < xs.length
    · obtain ⟨ad1, rfl, hab1, hd1⟩ := J1.out.atD (k := j) (by omega)
      obtain ⟨ad2, rfl, hab2, hd2⟩ := J2.out.atD (k := j) (by omega)
      obtain ⟨ad3, rfl, hab3, hd3⟩ := J3.out.atD (k := j) (by omega)
      have i0 : (0 : Int) ≤ (j : Int) := by omega
      have i1 : (j : Int) < fs.length := by omega
      have i2 : (j : Int) < rs.length := by omega
      have i3 : (j : Int) < ps.length := by omega
      have i4 : (j : Int) < xs.length := by omega
      by_cases hlm : j < m
      · have hp := K2.out j hlm
        simp only [askT, Bool.and_eq_true] at hp
        obtain ⟨p1, p2, p3⟩ := hp
        generalize fs.getD j 0 = x at *
        generalize rs.getD j 0 = y at *
        generalize ps.getD j 0 = z at *
        have V1 := Lib.hid (fun W => eqb (l03Flow_any x W) p1)
        have V2 := Lib.hid (fun W => eqb (l16Rock_any y W) p2)
        have V3 := Lib.hid (fun W => eqb (l16Power_any z W) p3)
        clear p1 p2 p3
        go_wp2_with (first | (go_at_call 41; refine (V1.out _).mono ?_; rintro e w' ⟨rfl, rfl⟩) | (go_at_call 109; refine (V2.out _).mono ?_; rintro e w' ⟨rfl, rfl⟩) | (go_at_call 110; refine (V3.out _).mono ?_; rintro e w' ⟨rfl, rfl⟩))
        go_roundw
        case rel => exact ⟨j + 1, by omega, by go_num, _, rfl⟩
        case measure => simp [intOf]; omega
      · obtain rfl : m = j := by omega
        have hp := K3.out hlt
        have HM := Lib.hid (show ¬ m = xs.length by omega)
        have hp : (inB (fs.getD m 0) (-100000) 100000 && (inB (rs.getD m 0) 0 900 && inB (ps.getD m 0) (-10000000) 10000000)) = false := hp
        generalize fs.getD m 0 = x at *
        generalize rs.getD m 0 = y at *
        generalize ps.getD m 0 = z at *
        cases p1 : inB x (-100000) 100000
        · have V1 := Lib.hid (fun W => eqb (l03Flow_any x W) p1)
          clear p1 hp
          go_wp2_with (go_at_call 41; refine (V1.out _).mono ?_; rintro e w' ⟨rfl, rfl⟩)
          go_ret
          exact ⟨ret_int (by rw [HR.out, HG.out, if_neg HM.out]), _, rfl⟩
        · rw [p1, Bool.true_and] at hp
          have V1 := Lib.hid (fun W => eqb (l03Flow_any x W) p1)
          cases p2 : inB y 0 900
          · have V2 := Lib.hid (fun W => eqb (l16Rock_any y W) p2)
            clear p1 p2 hp
            go_wp2_with (first | (go_at_call 41; refine (V1.out _).mono ?_; rintro e w' ⟨rfl, rfl⟩) | (go_at_call 109; refine (V2.out _).mono ?_; rintro e w' ⟨rfl, rfl⟩))
            go_ret
            exact ⟨ret_int (by rw [HR.out, HG.out, if_neg HM.out]), _, rfl⟩
          · rw [p2, Bool.true_and] at hp
            have V2 := Lib.hid (fun W => eqb (l16Rock_any y W) p2)
            have V3 := Lib.hid (fun W => eqb (l16Power_any z W) hp)
            clear p1 p2 hp
            go_wp2_with (first | (go_at_call 41; refine (V1.out _).mono ?_; rintro e w' ⟨rfl, rfl⟩) | (go_at_call 109; refine (V2.out _).mono ?_; rintro e w' ⟨rfl, rfl⟩) | (go_at_call 110; refine (V3.out _).mono ?_; rintro e w' ⟨rfl, rfl⟩))
            go_ret
            exact ⟨ret_int (by rw [HR.out, HG.out, if_neg HM.out]), _, rfl⟩
    · have HM := Lib.hid (show m = xs.length by omega)
      go_wp2
      go_ret
      exact ⟨ret_int (by rw [HR.out, HG.out, if_pos HM.out]), _, rfl⟩
end Go.Proofs.Ytlgagnbnjfneaaa
