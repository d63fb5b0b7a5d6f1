/- Lists of doors: when one is valid in a mine, by the reference. Conditions: the facts on memory and on lengths that each theorem names. -/
import Derived.Test.YtlgagnbnjfneaaaDoorsW
import Derived.Test.YtlgagnbnjfneaaaLocks
namespace Go.Proofs.Ytlgagnbnjfneaaa
open Go.RowKit
open Pl
/-- The first place below q that a door before q shares. -/
theorem take_any (ds : List Do) (a : Int) (q : Nat) (hq : q ≤ ds.length) : ((ds.take q).any fun x => x.i0 == a) = !allUp (fun k => !((ds.getD k nDo).i0 == a)) q := by
  induction q with
  | zero => simp [allUp]
  | succ q ih =>
    unfold allUp
    have e : ds.take (q + 1) = ds.take q ++ [ds[q]] := by rw [List.take_add_one, List.getElem?_eq_getElem (by omega)]; rfl
    rw [e, List.any_append, ih (by omega)]
    have e2 : ds.getD q nDo = ds[q] := by simp [List.getD, show q < ds.length by omega]
    rw [e2]
    simp [Bool.not_and]
set_option maxRecDepth 100000 in
set_option maxHeartbeats 3200000 in
theorem l10Ok_any (bm om : Nat) (J : Int) (A : Option Addr) (cp : Nat) (xs : List Aw) (A2 : Option Addr) (c2 : Nat) (ds : List Do) (B : Nat) (w : World) (hn : (xs.length : Int) ≤ 1099511627776) (hd : (ds.length : Int) ≤ 1099511627776) (hF : FitsA xs) (hFd : FitsDo ds) (hI : Recs encA 7 B w A xs) (hId : Recs encDo 4 B w A2 ds)
    (m0 : w.cell? ⟨bm, om, none⟩ = some (.int .i64 J)) (mm : w.cell? ⟨bm, om + 1, none⟩ = some (.slice A xs.length cp)) :
    Calls Try.prog 124 #[.pointer (some ⟨bm, om, none⟩), .slice A2 ds.length c2] w fun e w' => e = .returned (.bool (doorsB J xs ds)) ∧ ∃ n, w.drewN n = w' := by
  obtain ⟨R, hR⟩ : ∃ R, R = doorsB J xs ds := ⟨_, rfl⟩
  rw [← hR]
  have HR := Lib.hid hR
  clear hR
  have J0 := Lib.hid hId
  have HL := Lib.hid (FitsDo.id hFd)
  have HM0 := Lib.hid (l04Ok_any bm om J A cp xs B w hn hF hI m0 mm)
  clear hI hId hF hFd
  cases hmi : mineB J xs
  · have HN : Hid (doorsB J xs ds = false) := Lib.hid (by unfold doorsB; rw [hmi]; rfl)
    rw [hmi] at HM0
    clear hmi
    go_enter Try.func124, Try.ntmps124
    go_wp2_with fail
    refine HM0.out.mono ?_
    rintro e w1 ⟨rfl, n0, rfl⟩
    go_wp2_with fail
    go_ret
    exact ⟨ret_bool (by rw [HR.out, HN.out]), _, rfl⟩
  rw [hmi] at HM0
  by_cases h8 : (ds.length : Int) ≤ 8
  rotate_left
  · have HN : Hid (doorsB J xs ds = false) := Lib.hid (by unfold doorsB; rw [decide_eq_false h8]; simp)
    clear hmi
    go_enter Try.func124, Try.ntmps124
    go_wp2_with fail
    refine HM0.out.mono ?_
    rintro e w1 ⟨rfl, n0, rfl⟩
    go_wp2_with fail
    go_ret
    exact ⟨ret_bool (by rw [HR.out, HN.out]), _, rfl⟩
  obtain ⟨m, m1, m2, m3⟩ := first_stop (doorsP xs.length ds) ds.length
  have HM : Hid (doorsB J xs ds = decide (m = ds.length)) := Lib.hid (by unfold doorsB; rw [hmi, decide_eq_true h8, allUp_stop m1 m2 m3]; rfl)
  have M2 := Lib.hid m2
  have M3 := Lib.hid m3
  clear m2 m3 hmi
  go_enter Try.func124, Try.ntmps124
  go_wp2_with fail
  refine HM0.out.mono ?_
  rintro e w1 ⟨rfl, n0, rfl⟩
  clear HM0
  go_wp2_with fail
  go_loopw [5] (fun i wr => ∃ q : Nat, q ≤ m ∧ i = .int .i64 q ∧ ∃ n, w.drewN n = wr) (fun i _ => ds.length - (intOf i).toNat)
  case atStart => exact ⟨0, Nat.zero_le _, rfl, _, rfl⟩
  case round =>
    obtain ⟨q, hq, rfl, n, rfl⟩ := hrel
    by_cases hlt : q < ds.length
    · obtain ⟨⟨s, a, u, v⟩, hx⟩ : ∃ x, ds.getD q nDo = x := ⟨_, rfl⟩
      obtain ⟨b, o, rfl, hab, c0, c1, c2', c3⟩ := J0.out.cellsDo hlt hx
      have hs : s.size ≤ maxLen := by have := HL.out q; rw [hx] at this; exact this
      have i0 : (0 : Int) ≤ (q : Int) := by omega
      have i1 : (q : Int) < ds.length := by omega
      have HV := Lib.hid (fun n => l10One_any b (o + q * 4) s a u v (w.drewN n) hs (by simpa using c0) (by simpa using c1) (by simpa using c2') (by simpa using c3))
      have HT : Hid (doorsP xs.length ds q = true → q + 1 ≤ m) := Lib.hid (fun h => by
        rcases Nat.lt_or_ge q m with h' | h'
        · exact h'
        · have e : m = q := by omega
          have := M3.out (by omega)
          rw [e, h] at this; cases this)
      have HFa : Hid (doorsP xs.length ds q = false → decide (m = ds.length) = false) := Lib.hid (fun h => decide_eq_false (by
        intro e
        have := M2.out q (by omega)
        rw [h] at this; cases this))
      have HPq : Hid (doorsP xs.length ds q = (doorB s a u v && (inB a 0 ((xs.length : Int) - 1) && (ordD ds q && allUp (fun k => !((ds.getD k nDo).i0 == a)) q)))) := Lib.hid (by
        unfold doorsP soleD
        rw [hx, take_any ds a q (by omega), Bool.not_not]
        rfl)
      cases p1 : doorB s a u v
      · have HV := Lib.hid (fun n => eqbd (HV.out n) p1)
        have HD := Lib.hid (HFa.out (by rw [HPq.out, p1]; rfl))
        clear p1 hx
        go_wp2
        go_big_quiet ((go_at_call 156; first | (with_reducible exact quiet_d (HV.out _)) | (with_reducible exact quiet_d2 (HV.out _))))
        go_wp2
        go_ret
        exact ⟨ret_bool (by rw [HR.out, HM.out, HD.out]), _, (World.drewN_drewN _ _ _).symm⟩
      have HV := Lib.hid (fun n => eqbd (HV.out n) p1)
      have ha : 0 ≤ a ∧ a ≤ 23 := by
        unfold doorB at p1
        simp only [Bool.and_eq_true] at p1
        exact inB_iff.1 p1.2.1
      obtain ⟨a0, a1⟩ := ha
      cases p2 : inB a 0 ((xs.length : Int) - 1)
      · have hge : decide ((xs.length : Int) ≤ a) = true := decide_eq_true (by have := inB_no.1 p2; omega)
        have HD := Lib.hid (HFa.out (by rw [HPq.out, p1, p2]; rfl))
        clear p1 p2 hx
        go_wp2
        go_big_quiet ((go_at_call 156; first | (with_reducible exact quiet_d (HV.out _)) | (with_reducible exact quiet_d2 (HV.out _))))
        go_wp2
        go_ret
        exact ⟨ret_bool (by rw [HR.out, HM.out, HD.out]), _, (World.drewN_drewN _ _ _).symm⟩
      have hge : decide ((xs.length : Int) ≤ a) = false := decide_eq_false (by have := inB_iff.1 p2; omega)
      rw [p1, p2, Bool.true_and, Bool.true_and] at HPq
      clear p1 p2
      by_cases hq0 : q = 0
      · have hz0 : decide (0 < q) = false := decide_eq_false (by omega)
        rw [show ordD ds q = true by unfold ordD; rw [decide_eq_true hq0]; rfl, Bool.true_and] at HPq
        clear hx hq0
        obtain ⟨t, t1, t2, t3⟩ := first_stop (fun k => !((ds.getD k nDo).i0 == a)) q
        rw [allUp_stop t1 t2 t3] at HPq
        have T2 := Lib.hid t2
        have T3 := Lib.hid t3
        clear t2 t3
        go_wp2
        go_big_quiet ((go_at_call 156; first | (with_reducible exact quiet_d (HV.out _)) | (with_reducible exact quiet_d2 (HV.out _))))
        go_wp2
        go_loopw [6] (fun i wr => ∃ k : Nat, k ≤ t ∧ i = .int .i64 k ∧ ∃ n, w.drewN n = wr) (fun i _ => q - (intOf i).toNat)
        case atStart => exact ⟨0, Nat.zero_le _, rfl, _, (World.drewN_drewN _ _ _).symm⟩
        case round =>
          obtain ⟨k, hk, rfl, n2, rfl⟩ := hrel
          by_cases hkq : k < q
          · obtain ⟨⟨s2, a2, u2, v2⟩, hx2⟩ : ∃ x, ds.getD k nDo = x := ⟨_, rfl⟩
            obtain ⟨b2, o2, hbo2, _, -, d1, -, -⟩ := J0.out.cellsDo (j := k) (by omega) hx2
            cases hbo2
            have k0 : (0 : Int) ≤ (k : Int) := by omega
            have k1 : (k : Int) < ds.length := by omega
            have k2 : (k : Int) < (q : Int) := by omega
            by_cases hkt : k < t
            · have e := T2.out k hkt
              rw [hx2] at e
              have e : (a2 == a) = false := by simpa using e
              clear hx2
              go_wp2
              go_big_quiet (fail)
              go_wp2
              go_roundw
              case rel => exact ⟨k + 1, by omega, by go_num, _, rfl⟩
              case measure => simp [intOf]; omega
            · obtain rfl : t = k := by omega
              have e := T3.out hkq
              rw [hx2] at e
              have e : (a2 == a) = true := by simpa using e
              have HD := Lib.hid (HFa.out (by rw [HPq.out, decide_eq_false (show ¬ t = q by omega)]))
              clear hx2
              go_wp2
              go_big_quiet (fail)
              go_wp2
              go_ret
              exact ⟨ret_bool (by rw [HR.out, HM.out, HD.out]), _, (World.drewN_drewN _ _ _).symm⟩
          · obtain rfl : k = q := by omega
            have HG := Lib.hid (HT.out (by rw [HPq.out, decide_eq_true (show t = k by omega)]))
            go_wp2
            go_roundw
            case rel => exact ⟨k + 1, HG.out, by go_num, _, rfl⟩
            case measure => simp [intOf]; omega
      · obtain ⟨p, hpq⟩ : ∃ p, q = p + 1 := ⟨q - 1, by omega⟩
        have hz0 : decide (0 < q) = true := decide_eq_true (by omega)
        obtain ⟨⟨s', a', u', v'⟩, hx'⟩ : ∃ x, ds.getD p nDo = x := ⟨_, rfl⟩
        obtain ⟨b', o', hbo, _, d0, -⟩ := J0.out.cellsDo (j := p) (by omega) hx'
        cases hbo
        have hs : ordD ds q = Op.bytesLess s'.toList s.toList := by rw [hpq, ordD_succ, ← hpq, hx, hx']
        rw [hs] at HPq
        have w0 : (0 : Int) ≤ (p : Int) := by omega
        have w1 : (p : Int) < ds.length := by omega
        have hw : IntKind.i64.wrap ((q : Int) - 1) = (p : Int) := by rw [IntWalk.i64_in _ (by omega)]; omega
        clear hx hx' hpq hq0 hs
        cases p3 : Op.bytesLess s'.toList s.toList
        · have HD := Lib.hid (HFa.out (by rw [HPq.out, p3]; rfl))
          go_wp2
          go_big_quiet ((go_at_call 156; first | (with_reducible exact quiet_d (HV.out _)) | (with_reducible exact quiet_d2 (HV.out _))))
          clear hw
          go_wp2
          go_ret
          exact ⟨ret_bool (by rw [HR.out, HM.out, HD.out]), _, (World.drewN_drewN _ _ _).symm⟩
        · rw [p3, Bool.true_and] at HPq
          obtain ⟨t, t1, t2, t3⟩ := first_stop (fun k => !((ds.getD k nDo).i0 == a)) q
          rw [allUp_stop t1 t2 t3] at HPq
          have T2 := Lib.hid t2
          have T3 := Lib.hid t3
          clear t2 t3
          go_wp2
          go_big_quiet ((go_at_call 156; first | (with_reducible exact quiet_d (HV.out _)) | (with_reducible exact quiet_d2 (HV.out _))))
          clear hw
          go_wp2
          go_loopw [6] (fun i wr => ∃ k : Nat, k ≤ t ∧ i = .int .i64 k ∧ ∃ n, w.drewN n = wr) (fun i _ => q - (intOf i).toNat)
          case atStart => exact ⟨0, Nat.zero_le _, rfl, _, (World.drewN_drewN _ _ _).symm⟩
          case round =>
            obtain ⟨k, hk, rfl, n2, rfl⟩ := hrel
            by_cases hkq : k < q
            · obtain ⟨⟨s2, a2, u2, v2⟩, hx2⟩ : ∃ x, ds.getD k nDo = x := ⟨_, rfl⟩
              obtain ⟨b2, o2, hbo2, _, -, d1, -, -⟩ := J0.out.cellsDo (j := k) (by omega) hx2
              cases hbo2
              have k0 : (0 : Int) ≤ (k : Int) := by omega
              have k1 : (k : Int) < ds.length := by omega
              have k2 : (k : Int) < (q : Int) := by omega
              by_cases hkt : k < t
              · have e := T2.out k hkt
                rw [hx2] at e
                have e : (a2 == a) = false := by simpa using e
                clear hx2
                go_wp2
                go_big_quiet (fail)
                go_wp2
                go_roundw
                case rel => exact ⟨k + 1, by omega, by go_num, _, rfl⟩
                case measure => simp [intOf]; omega
              · obtain rfl : t = k := by omega
                have e := T3.out hkq
                rw [hx2] at e
                have e : (a2 == a) = true := by simpa using e
                have HD := Lib.hid (HFa.out (by rw [HPq.out, decide_eq_false (show ¬ t = q by omega)]))
                clear hx2
                go_wp2
                go_big_quiet (fail)
                go_wp2
                go_ret
                exact ⟨ret_bool (by rw [HR.out, HM.out, HD.out]), _, (World.drewN_drewN _ _ _).symm⟩
            · obtain rfl : k = q := by omega
              have HG := Lib.hid (HT.out (by rw [HPq.out, decide_eq_true (show t = k by omega)]))
              go_wp2
              go_roundw
              case rel => exact ⟨k + 1, HG.out, by go_num, _, rfl⟩
              case measure => simp [intOf]; omega
    · have HD := Lib.hid (decide_eq_true (show m = ds.length by omega))
      go_wp2
      go_ret
      exact ⟨ret_bool (by rw [HR.out, HM.out, HD.out]), _, rfl⟩
end Go.Proofs.Ytlgagnbnjfneaaa
