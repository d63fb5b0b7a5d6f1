/- Boosters, the reference's side: what is asked of its arguments. Conditions: the facts on memory and on lengths that each theorem names. -/
import Derived.Test.YtlgagnbnjfneaaaBoo
namespace Go.Proofs.Ytlgagnbnjfneaaa
open Go.RowKit
open Pl
theorem l12Push_any (n : Int) (w : World) : Calls Try.prog 101 #[.int .i64 n] w fun e w' => e = .returned (.bool (inB n (-20000) 20000)) ∧ w = w' := by
  go_enter Try.func101, Try.ntmps101
  go_wp2_with (go_at_call 60; refine (l00In_any _ _ _ _).mono ?_; rintro e w' ⟨rfl, rfl⟩)
  go_ret
  exact ⟨rfl, rfl⟩
def askP (ds ps : List Int) (k : Nat) : Bool := inB (ds.getD k 0) (-1000000) 1000000 && inB (ps.getD k 0) (-20000) 20000
theorem gapB_up {n : Nat} {ds ps : List Int} {rs : List Bool} (h1 : ds.length = n) (h2 : ps.length = n) (h3 : rs.length = n) : gapB n ds ps rs = allUp (askP ds ps) n := by
  unfold gapB askP
  rw [allUp_and, allIn_up, allIn_up, h1, h2, h3]
  simp
theorem gapB_len {n : Nat} {ds ps : List Int} {rs : List Bool} (h : ¬ ((ds.length : Int) = n ∧ (ps.length : Int) = n ∧ (rs.length : Int) = n)) : gapB n ds ps rs = false := by
  cases hg : gapB n ds ps rs
  · rfl
  · obtain ⟨a, b, c, _⟩ := gapB_in hg
    exact absurd ⟨by omega, by omega, by omega⟩ h
set_option maxRecDepth 100000 in
set_option maxHeartbeats 1600000 in
theorem l12Ask_any (bm om : Nat) (J : Int) (A : Option Addr) (cp : Nat) (xs : List Aw) (A1 : Option Addr) (c1 : Nat) (ds : List Int) (A2 : Option Addr) (c2 : Nat) (ps : List Int) (A3 : Option Addr) (c3 : Nat) (rs : List Bool) (B : Nat) (w : World) (hx : (xs.length : Int) ≤ 1048576) (hF : FitsA xs) (hI : Recs encA 7 B w A xs)
    (_ : (ds.length : Int) ≤ 1048576) (hI1 : Ints B w A1 ds) (_ : (ps.length : Int) ≤ 1048576) (hI2 : Ints B w A2 ps) (_ : (rs.length : Int) ≤ 1048576)
    (m0 : w.cell? ⟨bm, om, none⟩ = some (.int .i64 J)) (mm : w.cell? ⟨bm, om + 1, none⟩ = some (.slice A xs.length cp)) :
    Calls Try.prog 56 #[.pointer (some ⟨bm, om, none⟩), .slice A1 ds.length c1, .slice A2 ps.length c2, .slice A3 rs.length c3] w fun e w' => e = .returned (.int .i64 (codeF J xs ds ps rs)) ∧ ∃ n, w.drewN n = w' := by
  obtain ⟨R, hR⟩ : ∃ R, R = codeF J xs ds ps rs := ⟨_, rfl⟩
  rw [← hR]
  have HR := Lib.hid hR
  clear hR
  have HV := Lib.hid (l04Ok_any bm om J A cp xs B w (by omega) hF hI m0 mm)
  have J1 := Lib.hid hI1
  have J2 := Lib.hid hI2
  clear hI hI1 hI2 hF
  cases hm : mineB J xs
  · have HG := Lib.hid (codeF_one (ds := ds) (ps := ps) (rs := rs) hm)
    rw [hm] at HV
    clear hm
    go_enter Try.func56, Try.ntmps56
    go_wp2_with fail
    refine HV.out.mono ?_
    rintro e _ ⟨rfl, n, rfl⟩
    go_wp2_with fail
    go_ret
    exact ⟨ret_int (by rw [HR.out, HG.out]), _, rfl⟩
  by_cases hl : (ds.length : Int) = xs.length ∧ (ps.length : Int) = xs.length ∧ (rs.length : Int) = xs.length
  rotate_left
  · have HG := Lib.hid (codeF_two hm (gapB_len (n := xs.length) hl))
    rw [hm] at HV
    have HL := Lib.hid hl
    clear hm hl
    by_cases h1 : (ds.length : Int) = xs.length
    · by_cases h2 : (ps.length : Int) = xs.length
      · have h3 : ¬ (rs.length : Int) = xs.length := fun h3 => HL.out ⟨h1, h2, h3⟩
        go_enter Try.func56, Try.ntmps56
        go_wp2_with fail
        refine HV.out.mono ?_
        rintro e _ ⟨rfl, n, rfl⟩
        go_wp2_with fail
        go_ret
        exact ⟨ret_int (by rw [HR.out, HG.out]), _, rfl⟩
      · go_enter Try.func56, Try.ntmps56
        go_wp2_with fail
        refine HV.out.mono ?_
        rintro e _ ⟨rfl, n, rfl⟩
        go_wp2_with fail
        go_ret
        exact ⟨ret_int (by rw [HR.out, HG.out]), _, rfl⟩
    · go_enter Try.func56, Try.ntmps56
      go_wp2_with fail
      refine HV.out.mono ?_
      rintro e _ ⟨rfl, n, rfl⟩
      go_wp2_with fail
      go_ret
      exact ⟨ret_int (by rw [HR.out, HG.out]), _, rfl⟩
  obtain ⟨l1, l2, l3⟩ := hl
  rw [hm] at HV
  obtain ⟨m, k1, k2, k3⟩ := first_stop (askP ds ps) xs.length
  have HG : Hid (codeF J xs ds ps rs = if m = xs.length then 0 else 2) := Lib.hid (by
    have e := (gapB_up (ds := ds) (ps := ps) (rs := rs) (n := xs.length) (by omega) (by omega) (by omega)).trans (allUp_stop k1 k2 k3)
    by_cases h : m = xs.length
    · rw [if_pos h]; exact codeF_yes hm (by rw [e]; exact decide_eq_true h)
    · rw [if_neg h]; exact codeF_two hm (by rw [e]; exact decide_eq_false h))
  have K2 := Lib.hid k2
  have K3 := Lib.hid k3
  clear k2 k3 hm
  go_enter Try.func56, Try.ntmps56
  go_wp2_with fail
  refine HV.out.mono ?_
  rintro e _ ⟨rfl, n, rfl⟩
  go_wp2_with fail
  go_loopw [10] (fun i wr => ∃ j : Nat, j ≤ m ∧ i = .int .i64 j ∧ ∃ n, w.drewN n = wr) (fun i _ => xs.length - (intOf i).toNat)
  case atStart => exact ⟨0, Nat.zero_le _, rfl, _, rfl⟩
  case round =>
    obtain ⟨j, hj, rfl, n, rfl⟩ := hrel
    by_cases hlt : j < xs.length
    · obtain ⟨ad1, rfl, hab1, hd1⟩ := J1.out.atD (k := j) (by omega)
      obtain ⟨ad2, rfl, hab2, hd2⟩ := J2.out.atD (k := j) (by omega)
      have i0 : (0 : Int) ≤ (j : Int) := by omega
      have i1 : (j : Int) < ds.length := by omega
      have i2 : (j : Int) < ps.length := by omega
      have i3 : (j : Int) < xs.length := by omega
      by_cases hlm : j < m
      · have hp := K2.out j hlm
        simp only [askP, Bool.and_eq_true] at hp
        obtain ⟨p1, p2⟩ := hp
        generalize ds.getD j 0 = x at *
        generalize ps.getD j 0 = y at *
        have V1 := Lib.hid (fun W => eqb (l00In_any x (-1000000) 1000000 W) p1)
        have V2 := Lib.hid (fun W => eqb (l12Push_any y W) p2)
        clear p1 p2
        go_wp2_with (first | (go_at_call 60; refine (V1.out _).mono ?_; rintro e w' ⟨rfl, rfl⟩) | (go_at_call 101; refine (V2.out _).mono ?_; rintro e w' ⟨rfl, rfl⟩))
        go_roundw
        case rel => exact ⟨j + 1, by omega, by go_num, _, rfl⟩
        case measure => simp [intOf]; omega
      · obtain rfl : m = j := by omega
        have hp := K3.out hlt
        have HM := Lib.hid (show ¬ m = xs.length by omega)
        have hp : (inB (ds.getD m 0) (-1000000) 1000000 && inB (ps.getD m 0) (-20000) 20000) = false := hp
        generalize ds.getD m 0 = x at *
        generalize ps.getD m 0 = y at *
        cases p1 : inB x (-1000000) 1000000
        · have V1 := Lib.hid (fun W => eqb (l00In_any x (-1000000) 1000000 W) p1)
          clear p1 hp
          go_wp2_with (go_at_call 60; refine (V1.out _).mono ?_; rintro e w' ⟨rfl, rfl⟩)
          go_ret
          exact ⟨ret_int (by rw [HR.out, HG.out, if_neg HM.out]), _, rfl⟩
        · rw [p1, Bool.true_and] at hp
          have V1 := Lib.hid (fun W => eqb (l00In_any x (-1000000) 1000000 W) p1)
          have V2 := Lib.hid (fun W => eqb (l12Push_any y W) hp)
          clear p1 hp
          go_wp2_with (first | (go_at_call 60; refine (V1.out _).mono ?_; rintro e w' ⟨rfl, rfl⟩) | (go_at_call 101; refine (V2.out _).mono ?_; rintro e w' ⟨rfl, rfl⟩))
          go_ret
          exact ⟨ret_int (by rw [HR.out, HG.out, if_neg HM.out]), _, rfl⟩
    · have HM := Lib.hid (show m = xs.length by omega)
      go_wp2
      go_ret
      exact ⟨ret_int (by rw [HR.out, HG.out, if_pos HM.out]), _, rfl⟩
end Go.Proofs.Ytlgagnbnjfneaaa
