import Derived.Test.YtlgagnbnjfneaaaDoorsV
import Derived.Test.YtlgagnbnjfneaaaMine
namespace Go.Proofs.Ytlgagnbnjfneaaa
open Go.RowKit
open Pl
set_option maxRecDepth 100000 in
set_option maxHeartbeats 3200000 in
theorem ValidDoors_i (J : Int) (A : Option Addr) (cp : Nat) (xs : List Aw) (A2 : Option Addr) (c2 : Nat) (ds : List Do) (B : Nat) (w : World) (hn : (xs.length : Int) ≤ 1099511627776) (hcap : ds.length ≤ c2) (hF : FitsA xs) (hFd : FitsDo ds) (hI : Recs encA 7 B w A xs) (hId : Recs encDo 4 B w A2 ds) (hB : B ≤ w.heap.size) :
    Calls Try.prog 79 #[.agg #[.int .i64 J, .slice A xs.length cp], .slice A2 ds.length c2] w fun e w' => e = .returned (.bool (doorsB J xs ds)) ∧ Below w.heap.size w w' := by
  obtain ⟨R, hR⟩ : ∃ R, R = doorsB J xs ds := ⟨_, rfl⟩
  rw [← hR]
  have HR := Lib.hid hR
  clear hR
  have J0 := Lib.hid (hId.more hB)
  have HL := Lib.hid (FitsDo.id hFd)
  have hb0 : Below w.heap.size w (w.alloc (.cells #[.int .i64 J, .slice A xs.length cp] 31)) := by go_grown
  have HM0 := Lib.hid (ValidMine_i J A cp xs w.heap.size (w.alloc (.cells #[.int .i64 J, .slice A xs.length cp] 31)) hn hF ((hI.more hB).below hb0) hb0.size)
  clear hI hId hF hFd
  cases hmi : mineB J xs
  · have HN : Hid (doorsB J xs ds = false) := Lib.hid (by unfold doorsB; rw [hmi]; rfl)
    rw [hmi] at HM0
    clear hmi
    go_enter Try.func79, Try.ntmps79
    go_wp2_with fail
    refine HM0.out.mono ?_
    rintro e w1 ⟨rfl, hb1⟩
    go_wp2_with fail
    go_ret
    exact ⟨ret_bool (by rw [HR.out, HN.out]), hb0.trans (hb1.mono hb0.size)⟩
  rw [hmi] at HM0
  by_cases h8 : (ds.length : Int) ≤ 8
  rotate_left
  · have HN : Hid (doorsB J xs ds = false) := Lib.hid (by unfold doorsB; rw [decide_eq_false h8]; simp)
    clear hmi
    go_enter Try.func79, Try.ntmps79
    go_wp2_with fail
    refine HM0.out.mono ?_
    rintro e w1 ⟨rfl, hb1⟩
    go_wp2_with fail
    go_ret
    exact ⟨ret_bool (by rw [HR.out, HN.out]), hb0.trans (hb1.mono hb0.size)⟩
  obtain ⟨m, m1, m2, m3⟩ := first_stop (doorsP xs.length ds) ds.length
  have HM : Hid (doorsB J xs ds = decide (m = ds.length)) := Lib.hid (by unfold doorsB; rw [hmi, decide_eq_true h8, allUp_stop m1 m2 m3]; rfl)
  have M2 := Lib.hid m2
  have M3 := Lib.hid m3
  clear m2 m3 hmi
  have k0 : (w.alloc (.cells #[.int .i64 J, .slice A xs.length cp] 31)).cell? ⟨w.heap.size, 0, none⟩ = some (.int .i64 J) := by go_simp
  have k1 : (w.alloc (.cells #[.int .i64 J, .slice A xs.length cp] 31)).cell? ⟨w.heap.size, 1, none⟩ = some (.slice A xs.length cp) := by go_simp
  have kz : w.heap.size < (w.alloc (.cells #[.int .i64 J, .slice A xs.length cp] 31)).heap.size := by simp
  go_enter Try.func79, Try.ntmps79
  go_wp2_with fail
  refine HM0.out.mono ?_
  rintro e w1 ⟨rfl, hb1⟩
  have k2 := cell_later hb1 k0
  have k3 := cell_later hb1 k1
  have hbw := hb0.trans (hb1.mono hb0.size)
  have kz1 := Nat.lt_of_lt_of_le kz hb1.size
  clear k0 k1 HM0
  go_wp2_with fail
  go_loopw [17] (fun i wr => ∃ q : Nat, q ≤ m ∧ i = .int .i64 q ∧ Below w.heap.size w wr ∧ w.heap.size < wr.heap.size ∧ wr.cell? ⟨w.heap.size, 0, none⟩ = some (.int .i64 J) ∧ wr.cell? ⟨w.heap.size, 1, none⟩ = some (.slice A xs.length cp)) (fun i _ => ds.length - (intOf i).toNat)
  case atStart => exact ⟨0, Nat.zero_le _, rfl, hbw, kz1, k2, k3⟩
  case round =>
    obtain ⟨q, hq, rfl, hb, hz, m0, mm⟩ := hrel
    clear k2 k3
    by_cases hlt : q < ds.length
    · skip
      obtain ⟨⟨s, a, u, v⟩, hx⟩ : ∃ x, ds.getD q nDo = x := ⟨_, rfl⟩
      obtain ⟨b, o, rfl, hab, c0, c1, c2', c3⟩ := (J0.out.below hb).cellsDo hlt hx
      have hs : s.size ≤ maxLen := by have := HL.out q; rw [hx] at this; exact this
      have i0 : (0 : Int) ≤ (q : Int) := by omega
      have i1 : (q : Int) < ds.length := by omega
      have i2 : (q : Int) ≤ c2 := by omega
      have e0 := fun L : Later (wr.alloc (.cells #[.string s, .int .i64 a, .int .i64 u, .int .i64 v] 147)) => L.cell (p := ⟨wr.heap.size, 0, none⟩) (v := .string s) (by simp)
      have e1 := fun L : Later (wr.alloc (.cells #[.string s, .int .i64 a, .int .i64 u, .int .i64 v] 147)) => L.cell (p := ⟨wr.heap.size, 1, none⟩) (v := .int .i64 a) (by simp)
      have e2 := fun L : Later (wr.alloc (.cells #[.string s, .int .i64 a, .int .i64 u, .int .i64 v] 147)) => L.cell (p := ⟨wr.heap.size, 2, none⟩) (v := .int .i64 u) (by simp)
      have e3 := fun L : Later (wr.alloc (.cells #[.string s, .int .i64 a, .int .i64 u, .int .i64 v] 147)) => L.cell (p := ⟨wr.heap.size, 3, none⟩) (v := .int .i64 v) (by simp)
      have g0 := fun L : Later (wr.alloc (.cells #[.string s, .int .i64 a, .int .i64 u, .int .i64 v] 147)) => L.cell (Lib.cell?_alloc_some _ m0)
      have g1 := fun L : Later (wr.alloc (.cells #[.string s, .int .i64 a, .int .i64 u, .int .i64 v] 147)) => L.cell (Lib.cell?_alloc_some _ mm)
      have HV := Lib.hid (fun W => ValidDoor_i s a u v W hs)
      have HX := Lib.hid (fun W => (indexValidA_any A cp xs.length a W hn).mono (fun e w' (h : _ ∧ W = w') => (⟨h.1, by obtain ⟨_, rfl⟩ := h; exact Below.refl _ _⟩ : _ ∧ Below W.heap.size W w')))
      have hsz := hb.size
      have hba : Below w.heap.size w (wr.alloc (.cells #[.string s, .int .i64 a, .int .i64 u, .int .i64 v] 147)) := hb.alloc hsz _
      have hql : (ds.take q).length = q := by rw [List.length_take]; omega
      have HC : Hid (∀ L : Later (wr.alloc (.cells #[.string s, .int .i64 a, .int .i64 u, .int .i64 v] 147)), Calls Try.prog 132 #[.slice (some ⟨b, o, none⟩) q c2, .func (.func 133) #[] #[.pointer (some ⟨wr.heap.size, 0, none⟩)]] L.world fun e w' => e = .returned (.bool ((ds.take q).any fun x => x.i0 == a)) ∧ Below L.world.heap.size L.world w') := Lib.hid (fun L => by
        have hbl : Below w.heap.size w L.world := hba.trans (L.below.mono (by simp; omega))
        have hcell := e1 L
        have hlt1 : wr.heap.size < L.world.heap.size := by have := L.below.size; simp at this; omega
        have h := ContainsFuncD_any 133 #[.pointer (some ⟨wr.heap.size, 0, none⟩)] (enters_of Try.func133 (by kernel_rfl) rfl) (some ⟨b, o, none⟩) c2 (ds.take q) w.heap.size (fun y => y == a) L.world (by omega) (Recs.takeDo (J0.out.below hbl) q) hbl.size (fun s' a' u' v' W hW => doors1_any wr.heap.size s' a' u' v' a W ((hW.cell (p := ⟨wr.heap.size, 1, none⟩) hlt1).trans hcell))
        rw [hql] at h
        exact h)
      clear hql
      by_cases hqm : q < m
      · have hp := M2.out q hqm
        unfold doorsP at hp
        rw [hx] at hp
        simp only [Bool.and_eq_true] at hp
        obtain ⟨p1, p2, p3, p4⟩ := hp
        have p4 : (!((ds.take q).any fun x => x.i0 == a)) = true := by unfold soleD at p4; rw [hx] at p4; exact p4
        rw [Bool.not_eq_true'] at p4
        rw [p4] at HC
        have p1 : doorB s a u v = true := p1
        have p2 : inB a 0 ((xs.length : Int) - 1) = true := p2
        rw [p1] at HV
        rw [p2] at HX
        by_cases hq0 : q = 0
        · have hz0 : decide (0 < q) = false := decide_eq_false (by omega)
          clear p1 p2 p3 p4 hx hq0
          go_wp2
          refine wp_region_later (by kernel_rfl) (by kernel_rfl) ?_
          repeat (go_big_quiet_step ((first | (go_at_call 131; first | (with_reducible exact later_b (HV.out _)) | (with_reducible exact later_d (HV.out _)) | (with_reducible exact later_s (HV.out _))) | (go_at_call 62; first | (with_reducible exact later_b (HX.out _)) | (with_reducible exact later_d (HX.out _)) | (with_reducible exact later_s (HX.out _))))))
          refine wpQuiet_nil ?_
          intro _ hw'
          obtain ⟨LL, hw''⟩ := hw'
          subst hw''
          go_wp2_with fail
          refine (HC.out LL).mono ?_
          rintro e w3 ⟨rfl, hb3⟩
          go_wp2_with fail
          go_roundw
          case rel =>
            have hl : wr.heap.size + 1 ≤ LL.world.heap.size := by have := LL.size; simpa using this
            exact ⟨q + 1, by omega, by go_num, (hba.trans (LL.below.mono (by simp; omega))).trans (hb3.mono (by omega)), by have := hb3.size; omega, cell_later hb3 (g0 LL), cell_later hb3 (g1 LL)⟩
          case measure => simp [intOf]; omega
        · obtain ⟨p, hp⟩ : ∃ p, q = p + 1 := ⟨q - 1, by omega⟩
          have hz0 : decide (0 < q) = true := decide_eq_true (by omega)
          obtain ⟨⟨s', a', u', v'⟩, hx'⟩ : ∃ x, ds.getD p nDo = x := ⟨_, rfl⟩
          obtain ⟨b', o', hbo, _, d0, -⟩ := (J0.out.below hb).cellsDo (j := p) (by omega) hx'
          cases hbo
          rw [hp, ordD_succ, ← hp, hx, hx'] at p3
          have p3 : Op.bytesLess s'.toList s.toList = true := p3
          obtain ⟨o1, o2⟩ := (less_flip s'.toList s.toList).1 p3
          have g2 := fun L : Later (wr.alloc (.cells #[.string s, .int .i64 a, .int .i64 u, .int .i64 v] 147)) => L.cell (Lib.cell?_alloc_some _ d0)
          have w0 : (0 : Int) ≤ (p : Int) := by omega
          have w1' : (p : Int) < ds.length := by omega
          have hw : IntKind.i64.wrap ((q : Int) - 1) = (p : Int) := by rw [IntWalk.i64_in _ (by omega)]; omega
          clear p1 p2 p3 p4 hx hx' hp hq0
          go_wp2
          refine wp_region_later (by kernel_rfl) (by kernel_rfl) ?_
          repeat (go_big_quiet_step ((first | (go_at_call 131; first | (with_reducible exact later_b (HV.out _)) | (with_reducible exact later_d (HV.out _)) | (with_reducible exact later_s (HV.out _))) | (go_at_call 62; first | (with_reducible exact later_b (HX.out _)) | (with_reducible exact later_d (HX.out _)) | (with_reducible exact later_s (HX.out _))))))
          refine wpQuiet_nil ?_
          intro _ hw'
          obtain ⟨LL, hw''⟩ := hw'
          subst hw''
          clear hw
          go_wp2_with fail
          refine (HC.out LL).mono ?_
          rintro e w3 ⟨rfl, hb3⟩
          go_wp2_with fail
          go_roundw
          case rel =>
            have hl : wr.heap.size + 1 ≤ LL.world.heap.size := by have := LL.size; simpa using this
            exact ⟨q + 1, by omega, by go_num, (hba.trans (LL.below.mono (by simp; omega))).trans (hb3.mono (by omega)), by have := hb3.size; omega, cell_later hb3 (g0 LL), cell_later hb3 (g1 LL)⟩
          case measure => simp [intOf]; omega
      · obtain rfl : m = q := by omega
        have HD := Lib.hid (decide_eq_false (show ¬ m = ds.length by omega))
        have hp := M3.out hlt
        unfold doorsP at hp
        rw [hx] at hp
        have hp : (doorB s a u v && (inB a 0 ((xs.length : Int) - 1) && (ordD ds m && soleD ds m))) = false := hp
        cases p1 : doorB s a u v
        · rw [p1] at HV
          clear p1 hp hx
          go_wp2
          refine wp_region_later (by kernel_rfl) (by kernel_rfl) ?_
          repeat (go_big_quiet_step ((go_at_call 131; first | (with_reducible exact later_b (HV.out _)) | (with_reducible exact later_d (HV.out _)) | (with_reducible exact later_s (HV.out _)))))
          refine wpQuiet_nil ?_
          intro _ hw'
          obtain ⟨LL, hw''⟩ := hw'
          subst hw''
          go_wp2
          go_ret
          exact ⟨ret_bool (by rw [HR.out, HM.out, HD.out]), hba.trans (LL.below.mono (by simp; omega))⟩
        · rw [p1] at HV hp
          cases p2 : inB a 0 ((xs.length : Int) - 1)
          · rw [p2] at HX
            clear p1 p2 hp hx
            go_wp2
            refine wp_region_later (by kernel_rfl) (by kernel_rfl) ?_
            repeat (go_big_quiet_step ((first | (go_at_call 131; first | (with_reducible exact later_b (HV.out _)) | (with_reducible exact later_d (HV.out _)) | (with_reducible exact later_s (HV.out _))) | (go_at_call 62; first | (with_reducible exact later_b (HX.out _)) | (with_reducible exact later_d (HX.out _)) | (with_reducible exact later_s (HX.out _))))))
            refine wpQuiet_nil ?_
            intro _ hw'
            obtain ⟨LL, hw''⟩ := hw'
            subst hw''
            go_wp2
            go_ret
            exact ⟨ret_bool (by rw [HR.out, HM.out, HD.out]), hba.trans (LL.below.mono (by simp; omega))⟩
          · rw [p2, Bool.true_and, Bool.true_and] at hp
            rw [p2] at HX
            cases p3 : ordD ds m
            · have hq0 : m ≠ 0 := fun e => by rw [e] at p3; simp [ordD] at p3
              obtain ⟨p, hpm⟩ : ∃ p, m = p + 1 := ⟨m - 1, by omega⟩
              have hz0 : decide (0 < m) = true := decide_eq_true (by omega)
              obtain ⟨⟨s', a', u', v'⟩, hx'⟩ : ∃ x, ds.getD p nDo = x := ⟨_, rfl⟩
              obtain ⟨b', o', hbo, _, d0, -⟩ := (J0.out.below hb).cellsDo (j := p) (by omega) hx'
              cases hbo
              rw [hpm, ordD_succ, ← hpm, hx, hx'] at p3
              have p3 : Op.bytesLess s'.toList s.toList = false := p3
              have g2 := fun L : Later (wr.alloc (.cells #[.string s, .int .i64 a, .int .i64 u, .int .i64 v] 147)) => L.cell (Lib.cell?_alloc_some _ d0)
              have w0 : (0 : Int) ≤ (p : Int) := by omega
              have w1' : (p : Int) < ds.length := by omega
              have hw : IntKind.i64.wrap ((m : Int) - 1) = (p : Int) := by rw [IntWalk.i64_in _ (by omega)]; omega
              rcases (less_flip s'.toList s.toList).2 p3 with o1 | ⟨o1, o2⟩
              · clear p1 p2 p3 hx hx' hpm hq0 hp
                go_wp2
                refine wp_region_later (by kernel_rfl) (by kernel_rfl) ?_
                repeat (go_big_quiet_step ((first | (go_at_call 131; first | (with_reducible exact later_b (HV.out _)) | (with_reducible exact later_d (HV.out _)) | (with_reducible exact later_s (HV.out _))) | (go_at_call 62; first | (with_reducible exact later_b (HX.out _)) | (with_reducible exact later_d (HX.out _)) | (with_reducible exact later_s (HX.out _))))))
                refine wpQuiet_nil ?_
                intro _ hw'
                obtain ⟨LL, hw''⟩ := hw'
                subst hw''
                clear hw
                go_wp2
                go_ret
                exact ⟨ret_bool (by rw [HR.out, HM.out, HD.out]), hba.trans (LL.below.mono (by simp; omega))⟩
              · clear p1 p2 p3 hx hx' hpm hq0 hp
                go_wp2
                refine wp_region_later (by kernel_rfl) (by kernel_rfl) ?_
                repeat (go_big_quiet_step ((first | (go_at_call 131; first | (with_reducible exact later_b (HV.out _)) | (with_reducible exact later_d (HV.out _)) | (with_reducible exact later_s (HV.out _))) | (go_at_call 62; first | (with_reducible exact later_b (HX.out _)) | (with_reducible exact later_d (HX.out _)) | (with_reducible exact later_s (HX.out _))))))
                refine wpQuiet_nil ?_
                intro _ hw'
                obtain ⟨LL, hw''⟩ := hw'
                subst hw''
                clear hw
                go_wp2
                go_ret
                exact ⟨ret_bool (by rw [HR.out, HM.out, HD.out]), hba.trans (LL.below.mono (by simp; omega))⟩
            · rw [p3, Bool.true_and] at hp
              have p4 : (!((ds.take m).any fun x => x.i0 == a)) = false := by unfold soleD at hp; rw [hx] at hp; exact hp
              rw [Bool.not_eq_false'] at p4
              rw [p4] at HC
              by_cases hq0 : m = 0
              · exfalso
                rw [hq0] at p4
                simp at p4
              obtain ⟨p, hpm⟩ : ∃ p, m = p + 1 := ⟨m - 1, by omega⟩
              have hz0 : decide (0 < m) = true := decide_eq_true (by omega)
              obtain ⟨⟨s', a', u', v'⟩, hx'⟩ : ∃ x, ds.getD p nDo = x := ⟨_, rfl⟩
              obtain ⟨b', o', hbo, _, d0, -⟩ := (J0.out.below hb).cellsDo (j := p) (by omega) hx'
              cases hbo
              rw [hpm, ordD_succ, ← hpm, hx, hx'] at p3
              have p3 : Op.bytesLess s'.toList s.toList = true := p3
              obtain ⟨o1, o2⟩ := (less_flip s'.toList s.toList).1 p3
              have g2 := fun L : Later (wr.alloc (.cells #[.string s, .int .i64 a, .int .i64 u, .int .i64 v] 147)) => L.cell (Lib.cell?_alloc_some _ d0)
              have w0 : (0 : Int) ≤ (p : Int) := by omega
              have w1' : (p : Int) < ds.length := by omega
              have hw : IntKind.i64.wrap ((m : Int) - 1) = (p : Int) := by rw [IntWalk.i64_in _ (by omega)]; omega
              clear p1 p2 p3 p4 hx hx' hpm hq0 hp
              go_wp2
              refine wp_region_later (by kernel_rfl) (by kernel_rfl) ?_
              repeat (go_big_quiet_step ((first | (go_at_call 131; first | (with_reducible exact later_b (HV.out _)) | (with_reducible exact later_d (HV.out _)) | (with_reducible exact later_s (HV.out _))) | (go_at_call 62; first | (with_reducible exact later_b (HX.out _)) | (with_reducible exact later_d (HX.out _)) | (with_reducible exact later_s (HX.out _))))))
              refine wpQuiet_nil ?_
              intro _ hw'
              obtain ⟨LL, hw''⟩ := hw'
              subst hw''
              clear hw
              go_wp2_with fail
              refine (HC.out LL).mono ?_
              rintro e w3 ⟨rfl, hb3⟩
              have hl : wr.heap.size + 1 ≤ LL.world.heap.size := by have := LL.size; simpa using this
              go_wp2_with fail
              go_ret
              exact ⟨ret_bool (by rw [HR.out, HM.out, HD.out]), (hba.trans (LL.below.mono (by simp; omega))).trans (hb3.mono (by omega))⟩

    · have HD := Lib.hid (decide_eq_true (show m = ds.length by omega))
      go_wp2
      go_ret
      exact ⟨ret_bool (by rw [HR.out, HM.out, HD.out]), hb⟩
end Go.Proofs.Ytlgagnbnjfneaaa
