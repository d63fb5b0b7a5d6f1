/- Lists of fans: when one is valid, by the program and by the reference. Conditions: the facts on memory and on lengths that each theorem names. Printed by gen_fans.py. -/
import Derived.Test.YtlgagnbnjfneaaaFanV
namespace Go.Proofs.Ytlgagnbnjfneaaa
open Go.RowKit
open Pl
def ordF (xs : List Fa) (k : Nat) : Bool := decide (k = 0) || Op.bytesLess (xs.getD (k - 1) nFa).id.toList (xs.getD k nFa).id.toList
noncomputable def fansP (xs : List Fa) (k : Nat) : Bool := fanB (xs.getD k nFa) && ordF xs k
noncomputable def fansB (xs : List Fa) : Bool := decide ((xs.length : Int) ≤ 8) && allUp (fansP xs) xs.length
theorem eqbb {P : Program} {f : FuncId} {args : Array Value} {w : World} {B : Nat} {b b' : Bool} (h : Calls P f args w fun e w' => e = .returned (.bool b) ∧ Below B w w') (hb : b = b') :
    Calls P f args w fun e w' => e = .returned (.bool b') ∧ Below B w w' := by rw [← hb]; exact h
theorem ordF_succ (xs : List Fa) (k : Nat) : ordF xs (k + 1) = Op.bytesLess (xs.getD k nFa).id.toList (xs.getD (k + 1) nFa).id.toList := by unfold ordF; simp
theorem FitsF.id {xs : List Fa} (h : FitsF xs) (k : Nat) : (xs.getD k nFa).id.size ≤ maxLen := by
  by_cases hk : k < xs.length
  · rw [getD_fa hk]; exact (h _ (List.getElem_mem hk)).1
  · rw [show xs.getD k nFa = nFa by simp [List.getD, List.getElem?_eq_none (by omega : xs.length ≤ k)]]; exact Nat.zero_le _
theorem FansLen.cv {xs : List Fa} (h : FansLen xs) {k : Nat} (hk : k < xs.length) : (xs.getD k nFa).cv.length ≤ 1048576 := by rw [getD_fa hk]; exact (h _ (List.getElem_mem hk)).1
set_option maxRecDepth 100000 in
set_option maxHeartbeats 3200000 in
theorem ValidFans_i (A : Option Addr) (c : Nat) (xs : List Fa) (B : Nat) (w : World) (hn : (xs.length : Int) ≤ 1099511627776) (hF : FitsF xs) (hl : FansLen xs) (hI : Fns B w A xs) (hB : B ≤ w.heap.size) :
    Calls Try.prog 81 #[.slice A xs.length c] w fun e w' => e = .returned (.bool (fansB xs)) ∧ Below w.heap.size w w' := by
  obtain ⟨R, hR⟩ : ∃ R, R = fansB xs := ⟨_, rfl⟩
  rw [← hR]
  have HR := Lib.hid hR
  clear hR
  have J0 := Lib.hid (hI.more hB)
  have HL := Lib.hid (FitsF.id hF)
  have HV0 := Lib.hid (fun k (hk : k < xs.length) => FansLen.cv hl hk)
  clear hI hF hl
  by_cases h8 : (xs.length : Int) ≤ 8
  rotate_left
  · have HN : Hid (fansB xs = false) := Lib.hid (by unfold fansB; rw [decide_eq_false h8]; rfl)
    go_enter Try.func81, Try.ntmps81
    go_wp2
    go_ret
    exact ⟨ret_bool (by rw [HR.out, HN.out]), Below.refl _ _⟩
  obtain ⟨m, m1, m2, m3⟩ := first_stop (fansP xs) xs.length
  have HM : Hid (fansB xs = decide (m = xs.length)) := Lib.hid (by unfold fansB; rw [decide_eq_true h8, allUp_stop m1 m2 m3]; rfl)
  have M2 := Lib.hid m2
  have M3 := Lib.hid m3
  clear m2 m3
  go_enter Try.func81, Try.ntmps81
  go_wp2
  go_loopw [10] (fun i wr => ∃ q : Nat, q ≤ m ∧ i = .int .i64 q ∧ Below w.heap.size w wr) (fun i _ => xs.length - (intOf i).toNat)
  case atStart => exact ⟨0, Nat.zero_le _, rfl, Below.refl _ _⟩
  case round =>
    obtain ⟨q, hq, rfl, hb⟩ := hrel
    by_cases hlt : q < xs.length
    · obtain ⟨⟨s, a, cv⟩, hx⟩ : ∃ x, xs.getD q nFa = x := ⟨_, rfl⟩
      obtain ⟨b, o, A', c', rfl, hab, c0, c1, c2, hI'⟩ := (J0.out.below hb).at_ hlt hx
      have hs : s.size ≤ maxLen := by have := HL.out q; rw [hx] at this; exact this
      have hcl : cv.length ≤ 1048576 := by have := HV0.out q hlt; rw [hx] at this; exact this
      have i0 : (0 : Int) ≤ (q : Int) := by omega
      have i1 : (q : Int) < xs.length := by omega
      have e0 := fun L : Later (wr.alloc (.cells #[.string s, .int .i64 a, .slice A' cv.length c'] 149)) => L.cell (p := ⟨wr.heap.size, 0, none⟩) (v := .string s) (by simp)
      have e1 := fun L : Later (wr.alloc (.cells #[.string s, .int .i64 a, .slice A' cv.length c'] 149)) => L.cell (p := ⟨wr.heap.size, 1, none⟩) (v := .int .i64 a) (by simp)
      have e2 := fun L : Later (wr.alloc (.cells #[.string s, .int .i64 a, .slice A' cv.length c'] 149)) => L.cell (p := ⟨wr.heap.size, 2, none⟩) (v := .slice A' cv.length c') (by simp)
      have hsz := hb.size
      have hba : Below w.heap.size w (wr.alloc (.cells #[.string s, .int .i64 a, .slice A' cv.length c'] 149)) := hb.alloc hb.size _
      have haa : Below wr.heap.size wr (wr.alloc (.cells #[.string s, .int .i64 a, .slice A' cv.length c'] 149)) := (Below.refl _ _).alloc (Nat.le_refl _) _
      have hIw : Nest wr.heap.size wr A' cv := hI'.more hb.size
      have HV1 := Lib.hid (fun L : Later (wr.alloc (.cells #[.string s, .int .i64 a, .slice A' cv.length c'] 149)) => ValidFan_i s a A' c' cv wr.heap.size L.world hs (by omega) ((hIw.below haa).below (L.below.mono (by simp))) (by have := L.below.size; simp at this; omega))
      clear hI' hIw haa hcl
      by_cases hqm : q < m
      · have hp := M2.out q hqm
        unfold fansP at hp
        rw [Bool.and_eq_true] at hp
        obtain ⟨p1, p3⟩ := hp
        rw [hx] at p1
        have HV := Lib.hid (fun L => eqbb (HV1.out L) p1)
        by_cases hq0 : q = 0
        · have hz0 : decide (0 < q) = false := decide_eq_false (by omega)
          clear p1 p3 hx hq0
          go_wp2
          refine wp_region_later (by kernel_rfl) (by kernel_rfl) ?_
          repeat (go_big_quiet_step ((go_at_call 135; first | (with_reducible exact later_b (HV.out _)) | (with_reducible exact later_d (HV.out _)) | (with_reducible exact later_s (HV.out _)))))
          refine wpQuiet_nil ?_
          intro _ hw'
          obtain ⟨LL, hw''⟩ := hw'
          subst hw''
          go_wp2
          go_roundw
          case rel => exact ⟨q + 1, by omega, by go_num, hba.trans (LL.below.mono (by simp; omega))⟩
          case measure => simp [intOf]; omega
        · obtain ⟨p, hp⟩ : ∃ p, q = p + 1 := ⟨q - 1, by omega⟩
          have hz0 : decide (0 < q) = true := decide_eq_true (by omega)
          obtain ⟨⟨s', a', cv'⟩, hx'⟩ : ∃ x, xs.getD p nFa = x := ⟨_, rfl⟩
          obtain ⟨b', o', A3, c3, hbo, _, d0, -, -, -⟩ := (J0.out.below hb).at_ (k := p) (by omega) hx'
          cases hbo
          have g2 := fun L : Later (wr.alloc (.cells #[.string s, .int .i64 a, .slice A' cv.length c'] 149)) => L.cell (Lib.cell?_alloc_some _ d0)
          rw [hp, ordF_succ, ← hp, hx, hx'] at p3
          have p3 : Op.bytesLess s'.toList s.toList = true := p3
          obtain ⟨o1, o2⟩ := (less_flip s'.toList s.toList).1 p3
          have w0 : (0 : Int) ≤ (p : Int) := by omega
          have w1 : (p : Int) < xs.length := by omega
          have hw : IntKind.i64.wrap ((q : Int) - 1) = (p : Int) := by rw [IntWalk.i64_in _ (by omega)]; omega
          clear p1 p3 hx hx' hp hq0
          go_wp2
          refine wp_region_later (by kernel_rfl) (by kernel_rfl) ?_
          repeat (go_big_quiet_step ((go_at_call 135; first | (with_reducible exact later_b (HV.out _)) | (with_reducible exact later_d (HV.out _)) | (with_reducible exact later_s (HV.out _)))))
          refine wpQuiet_nil ?_
          intro _ hw'
          obtain ⟨LL, hw''⟩ := hw'
          subst hw''
          clear hw
          go_wp2
          go_roundw
          case rel => exact ⟨q + 1, by omega, by go_num, hba.trans (LL.below.mono (by simp; omega))⟩
          case measure => simp [intOf]; omega
      · obtain rfl : m = q := by omega
        have HD := Lib.hid (decide_eq_false (show ¬ m = xs.length by omega))
        have hp := M3.out hlt
        unfold fansP at hp
        rw [hx] at hp
        cases p1 : fanB ⟨s, a, cv⟩
        · have HV := Lib.hid (fun L => eqbb (HV1.out L) p1)
          clear p1 hp hx
          go_wp2
          refine wp_region_later (by kernel_rfl) (by kernel_rfl) ?_
          repeat (go_big_quiet_step ((go_at_call 135; first | (with_reducible exact later_b (HV.out _)) | (with_reducible exact later_d (HV.out _)) | (with_reducible exact later_s (HV.out _)))))
          refine wpQuiet_nil ?_
          intro _ hw'
          obtain ⟨LL, hw''⟩ := hw'
          subst hw''
          go_wp2
          go_ret
          exact ⟨ret_bool (by rw [HR.out, HM.out, HD.out]), hba.trans (LL.below.mono (by simp; omega))⟩
        · have HV := Lib.hid (fun L => eqbb (HV1.out L) p1)
          rw [p1, Bool.true_and] at hp
          have hq0 : m ≠ 0 := fun e => by rw [e] at hp; simp [ordF] at hp
          obtain ⟨p, hpm⟩ : ∃ p, m = p + 1 := ⟨m - 1, by omega⟩
          have hz0 : decide (0 < m) = true := decide_eq_true (by omega)
          obtain ⟨⟨s', a', cv'⟩, hx'⟩ : ∃ x, xs.getD p nFa = x := ⟨_, rfl⟩
          obtain ⟨b', o', A3, c3, hbo, _, d0, -, -, -⟩ := (J0.out.below hb).at_ (k := p) (by omega) hx'
          cases hbo
          have g2 := fun L : Later (wr.alloc (.cells #[.string s, .int .i64 a, .slice A' cv.length c'] 149)) => L.cell (Lib.cell?_alloc_some _ d0)
          rw [hpm, ordF_succ, ← hpm, hx, hx'] at hp
          have p3 : Op.bytesLess s'.toList s.toList = false := hp
          have w0 : (0 : Int) ≤ (p : Int) := by omega
          have w1 : (p : Int) < xs.length := by omega
          have hw : IntKind.i64.wrap ((m : Int) - 1) = (p : Int) := by rw [IntWalk.i64_in _ (by omega)]; omega
          rcases (less_flip s'.toList s.toList).2 p3 with o1 | ⟨o1, o2⟩
          · clear p1 p3 hx hx' hpm hq0 hp
            go_wp2
            refine wp_region_later (by kernel_rfl) (by kernel_rfl) ?_
            repeat (go_big_quiet_step ((go_at_call 135; first | (with_reducible exact later_b (HV.out _)) | (with_reducible exact later_d (HV.out _)) | (with_reducible exact later_s (HV.out _)))))
            refine wpQuiet_nil ?_
            intro _ hw'
            obtain ⟨LL, hw''⟩ := hw'
            subst hw''
            clear hw
            go_wp2
            go_ret
            exact ⟨ret_bool (by rw [HR.out, HM.out, HD.out]), hba.trans (LL.below.mono (by simp; omega))⟩
          · clear p1 p3 hx hx' hpm hq0 hp
            go_wp2
            refine wp_region_later (by kernel_rfl) (by kernel_rfl) ?_
            repeat (go_big_quiet_step ((go_at_call 135; first | (with_reducible exact later_b (HV.out _)) | (with_reducible exact later_d (HV.out _)) | (with_reducible exact later_s (HV.out _)))))
            refine wpQuiet_nil ?_
            intro _ hw'
            obtain ⟨LL, hw''⟩ := hw'
            subst hw''
            clear hw
            go_wp2
            go_ret
            exact ⟨ret_bool (by rw [HR.out, HM.out, HD.out]), hba.trans (LL.below.mono (by simp; omega))⟩

    · have HD := Lib.hid (decide_eq_true (show m = xs.length by omega))
      go_wp2
      go_ret
      exact ⟨ret_bool (by rw [HR.out, HM.out, HD.out]), hb⟩
set_option maxRecDepth 100000 in
set_option maxHeartbeats 3200000 in
theorem l06List_any (A : Option Addr) (c : Nat) (xs : List Fa) (B : Nat) (w : World) (hn : (xs.length : Int) ≤ 1099511627776) (hF : FitsF xs) (hl : FansLen xs) (hI : Fns B w A xs) :
    Calls Try.prog 126 #[.slice A xs.length c] w fun e w' => e = .returned (.bool (fansB xs)) ∧ ∃ n, w.drewN n = w' := by
  obtain ⟨R, hR⟩ : ∃ R, R = fansB xs := ⟨_, rfl⟩
  rw [← hR]
  have HR := Lib.hid hR
  clear hR
  have J0 := Lib.hid hI
  have HL := Lib.hid (FitsF.id hF)
  have HV0 := Lib.hid (fun k (hk : k < xs.length) => FansLen.cv hl hk)
  clear hI hF hl
  obtain ⟨m, m1, m2, m3⟩ := first_stop (fansP xs) xs.length
  have HM : Hid (fansB xs = (decide ((xs.length : Int) ≤ 8) && decide (m = xs.length))) := Lib.hid (by unfold fansB; rw [allUp_stop m1 m2 m3])
  have M2 := Lib.hid m2
  have M3 := Lib.hid m3
  clear m2 m3
  go_enter Try.func126, Try.ntmps126
  go_wp2
  go_loopw [3] (fun i wr => ∃ q : Nat, q ≤ m ∧ i = .int .i64 q ∧ ∃ n, w.drewN n = wr) (fun i _ => xs.length - (intOf i).toNat)
  case atStart => exact ⟨0, Nat.zero_le _, rfl, 0, rfl⟩
  case round =>
    obtain ⟨q, hq, rfl, n, rfl⟩ := hrel
    by_cases hlt : q < xs.length
    · obtain ⟨⟨s, a, cv⟩, hx⟩ : ∃ x, xs.getD q nFa = x := ⟨_, rfl⟩
      obtain ⟨b, o, A', c', rfl, hab, c0, c1, c2, hI'⟩ := J0.out.at_ hlt hx
      have hs : s.size ≤ maxLen := by have := HL.out q; rw [hx] at this; exact this
      have hcl : cv.length ≤ 1048576 := by have := HV0.out q hlt; rw [hx] at this; exact this
      have i0 : (0 : Int) ≤ (q : Int) := by omega
      have i1 : (q : Int) < xs.length := by omega
      have HV1 := Lib.hid (fun n => l06Ok_any b (o + q * 3) s a A' c' cv B (w.drewN n) hs (by omega) (hI'.below (below_drewN (Below.refl _ _) n)) (by simpa using c0) (by simpa using c1) (by simpa using c2))
      clear hI' hcl
      by_cases hqm : q < m
      · have hp := M2.out q hqm
        unfold fansP at hp
        rw [Bool.and_eq_true] at hp
        obtain ⟨p1, p3⟩ := hp
        rw [hx] at p1
        have HV := Lib.hid (fun n => eqbd (HV1.out n) p1)
        by_cases hq0 : q = 0
        · have hz0 : decide (0 < q) = false := decide_eq_false (by omega)
          clear p1 p3 hx hq0
          go_wp2
          go_big_quiet ((go_at_call 157; first | (with_reducible exact quiet_d (HV.out _)) | (with_reducible exact quiet_d2 (HV.out _))))
          go_wp2
          go_roundw
          case rel => exact ⟨q + 1, by omega, by go_num, _, rfl⟩
          case measure => simp [intOf]; omega
        · obtain ⟨p, hp⟩ : ∃ p, q = p + 1 := ⟨q - 1, by omega⟩
          have hz0 : decide (0 < q) = true := decide_eq_true (by omega)
          obtain ⟨⟨s', a', cv'⟩, hx'⟩ : ∃ x, xs.getD p nFa = x := ⟨_, rfl⟩
          obtain ⟨b', o', A3, c3, hbo, _, d0, -, -, -⟩ := J0.out.at_ (k := p) (by omega) hx'
          cases hbo
          rw [hp, ordF_succ, ← hp, hx, hx'] at p3
          have p3 : Op.bytesLess s'.toList s.toList = true := p3
          obtain ⟨o1, o2⟩ := (less_flip s'.toList s.toList).1 p3
          have w0 : (0 : Int) ≤ (p : Int) := by omega
          have w1 : (p : Int) < xs.length := by omega
          have hw : IntKind.i64.wrap ((q : Int) - 1) = (p : Int) := by rw [IntWalk.i64_in _ (by omega)]; omega
          clear p1 hx hx' hp hq0
          go_wp2
          go_big_quiet ((go_at_call 157; first | (with_reducible exact quiet_d (HV.out _)) | (with_reducible exact quiet_d2 (HV.out _))))
          clear hw
          go_wp2
          go_roundw
          case rel => exact ⟨q + 1, by omega, by go_num, _, rfl⟩
          case measure => simp [intOf]; omega
      · obtain rfl : m = q := by omega
        have HD := Lib.hid (decide_eq_false (show ¬ m = xs.length by omega))
        have hp := M3.out hlt
        unfold fansP at hp
        rw [hx] at hp
        cases p1 : fanB ⟨s, a, cv⟩
        · have HV := Lib.hid (fun n => eqbd (HV1.out n) p1)
          clear p1 hp hx
          go_wp2
          go_big_quiet ((go_at_call 157; first | (with_reducible exact quiet_d (HV.out _)) | (with_reducible exact quiet_d2 (HV.out _))))
          go_wp2
          go_ret
          exact ⟨ret_bool (by rw [HR.out, HM.out, HD.out, Bool.and_false]), _, (World.drewN_drewN _ _ _).symm⟩
        · have HV := Lib.hid (fun n => eqbd (HV1.out n) p1)
          rw [p1, Bool.true_and] at hp
          have hq0 : m ≠ 0 := fun e => by rw [e] at hp; simp [ordF] at hp
          obtain ⟨p, hpm⟩ : ∃ p, m = p + 1 := ⟨m - 1, by omega⟩
          have hz0 : decide (0 < m) = true := decide_eq_true (by omega)
          obtain ⟨⟨s', a', cv'⟩, hx'⟩ : ∃ x, xs.getD p nFa = x := ⟨_, rfl⟩
          obtain ⟨b', o', A3, c3, hbo, _, d0, -, -, -⟩ := J0.out.at_ (k := p) (by omega) hx'
          cases hbo
          rw [hpm, ordF_succ, ← hpm, hx, hx'] at hp
          have p3 : Op.bytesLess s'.toList s.toList = false := hp
          have w0 : (0 : Int) ≤ (p : Int) := by omega
          have w1 : (p : Int) < xs.length := by omega
          have hw : IntKind.i64.wrap ((m : Int) - 1) = (p : Int) := by rw [IntWalk.i64_in _ (by omega)]; omega
          clear p1 hx hx' hpm hq0 hp
          go_wp2
          go_big_quiet ((go_at_call 157; first | (with_reducible exact quiet_d (HV.out _)) | (with_reducible exact quiet_d2 (HV.out _))))
          clear hw
          go_wp2
          go_ret
          exact ⟨ret_bool (by rw [HR.out, HM.out, HD.out, Bool.and_false]), _, (World.drewN_drewN _ _ _).symm⟩

    · have HD := Lib.hid (decide_eq_true (show m = xs.length by omega))
      by_cases h8 : (xs.length : Int) ≤ 8
      · have H8 := Lib.hid (decide_eq_true h8)
        go_wp2
        go_ret
        exact ⟨ret_bool (by rw [HR.out, HM.out, HD.out, H8.out]; rfl), _, rfl⟩
      · have H8 := Lib.hid (decide_eq_false h8)
        go_wp2
        go_ret
        exact ⟨ret_bool (by rw [HR.out, HM.out, HD.out, H8.out]; rfl), _, rfl⟩
end Go.Proofs.Ytlgagnbnjfneaaa
