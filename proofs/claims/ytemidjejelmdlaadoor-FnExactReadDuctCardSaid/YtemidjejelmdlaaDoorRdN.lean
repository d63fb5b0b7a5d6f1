/- A number read back from its decimal form: by the reference and by the program. Conditions: the table of powers and two errors of the library's lie in memory; the lengths that each theorem names. Printed by gen_rdn.py. -/
import Derived.Test.YtemidjejelmdlaaDoorRdP
import Derived.Test.YtemidjejelmdlaaDoorTxI
import Derived.Test.YtemidjejelmdlaaDoorShB
import Derived.Test.YtemidjejelmdlaaDoorUp
import Derived.PlainAid
import Derived.Lib.AtoiErrMem
namespace Go.Proofs.YtemidjejelmdlaaDoor
open Go.RowKit Go.PlainAid
open Pl
theorem bt_list (s : ByteArray) (k : Nat) : bt s k = ((s.data.toList.getD k 0).toNat : Int) := by
  by_cases h : k < s.size
  · unfold bt
    rw [dif_pos h]
    have h' : k < s.data.toList.length := by rw [Array.length_toList]; exact h
    rw [List.getD_eq_getElem?_getD, List.getElem?_eq_getElem h']
    rfl
  · rw [bt_end s (by omega), List.getD_eq_getElem?_getD, List.getElem?_eq_none (show s.data.toList.length ≤ k by rw [Array.length_toList]; exact Nat.le_of_not_lt h)]
    rfl
theorem size_list (s : ByteArray) : s.data.toList.length = s.size := by rw [Array.length_toList]; rfl
theorem mk_list (s : ByteArray) : (⟨s.data.toList.toArray⟩ : ByteArray) = s := by simp
def numN (l : List UInt8) : Int := if numB l then numV l else 0
theorem numN_no {l : List UInt8} (h : numB l = false) : numN l = 0 := by unfold numN; rw [h]; rfl
theorem numN_yes {l : List UInt8} (h : numB l = true) : numN l = numV l := by unfold numN; rw [h]; rfl
theorem all_stop {D : List UInt8} {m : Nat} (m1 : m ≤ D.length) (m2 : ∀ k, k < m → isD (D.getD k 0) = true) (m3 : m < D.length → isD (D.getD m 0) = false) : D.all isD = decide (m = D.length) := by
  rw [Bool.eq_iff_iff, List.all_eq_true, decide_eq_true_iff]
  constructor
  · intro h
    rcases Nat.lt_or_ge m D.length with hlt | hge
    · have h3 := m3 hlt
      rw [show D.getD m 0 = D[m] by simp [List.getD, hlt], h _ (List.getElem_mem hlt)] at h3
      cases h3
    · omega
  · intro h x hx
    obtain ⟨k, hk, rfl⟩ := List.getElem_of_mem hx
    have := m2 k (by omega)
    rwa [show D.getD k 0 = D[k] by simp [List.getD, hk]] at this
theorem valD_take {D : List UInt8} {j : Nat} (h : j < D.length) : valD 0 (D.take (j + 1)) = 10 * valD 0 (D.take j) + ((D.getD j 0).toNat - 48) := by
  rw [List.take_succ_eq_append_getElem h, valD_snoc, show D.getD j 0 = D[j] by simp [List.getD, h]]
theorem valD_small {D : List UInt8} {j m : Nat} (hj : j ≤ m) (hm : m ≤ D.length) (h17 : j ≤ 17) (m2 : ∀ k, k < m → isD (D.getD k 0) = true) : valD 0 (D.take j) < 100000000000000000 := by
  have h := valD_lt (D.take j) 0 (fun b hb => by
    obtain ⟨k, hk, rfl⟩ := List.getElem_of_mem hb
    rw [List.length_take] at hk
    have := m2 k (by omega)
    rw [show D.getD k 0 = D[k] by simp [List.getD, show k < D.length by omega]] at this
    rwa [List.getElem_take])
  have h5 : 10 ^ (D.take j).length ≤ 10 ^ 17 := Nat.pow_le_pow_right (by decide) (by rw [List.length_take]; omega)
  omega
theorem l01DigR_any (c : Int) (w : World) (_ : 0 ≤ c) (_ : c ≤ 255) : Calls Tryd.prog 65 #[.int .u8 c] w fun e w' => e = .returned (.bool (decide (48 ≤ c) && decide (c ≤ 57))) ∧ w = w' := by
  by_cases a : 48 ≤ c
  · rw [decide_eq_true a]
    go_enter Tryd.func65, Tryd.ntmps65
    go_wp2
    go_ret
    exact ⟨by simp, rfl⟩
  · rw [decide_eq_false a]
    go_enter Tryd.func65, Tryd.ntmps65
    go_wp2
    go_ret
    exact ⟨by simp, rfl⟩
set_option maxRecDepth 100000 in
set_option maxHeartbeats 3200000 in
theorem l01Number_any (s : ByteArray) (w : World) (hs : s.size ≤ 1099511627776) :
    Calls Tryd.prog 57 #[.string s] w fun e w' => e = .returned (.tuple #[.int .i64 (numN s.data.toList), .bool (numB s.data.toList)]) ∧ w = w' := by
  obtain ⟨R, hR⟩ : ∃ R, R = numN s.data.toList := ⟨_, rfl⟩
  obtain ⟨V, hV⟩ : ∃ V, V = numB s.data.toList := ⟨_, rfl⟩
  rw [← hR, ← hV]
  have HR := Lib.hid (And.intro hR hV)
  clear hR hV
  have HSZ := Lib.hid (size_list s)
  have HBL := Lib.hid (bt_list s)
  have hb := get_bt s
  have HNO : Hid (numB s.data.toList = false → R = 0 ∧ V = false) := Lib.hid (fun h => ⟨by rw [HR.out.1]; exact numN_no h, by rw [HR.out.2]; exact h⟩)
  by_cases h0 : s.size = 0
  · obtain ⟨rfl, rfl⟩ := HNO.out (by
      have : s.data.toList = [] := List.eq_nil_of_length_eq_zero (by rw [HSZ.out]; exact h0)
      rw [this]; rfl)
    go_enter Tryd.func57, Tryd.ntmps57
    go_wp2
    go_ret2
    exact ⟨rfl, rfl⟩
  by_cases h45 : bt s 0 = 45
  · have HNG : Hid (neg s.data.toList = true) := Lib.hid (by
      have h := HBL.out 0
      rw [h45] at h
      cases hl : s.data.toList with
      | nil => exfalso; have := HSZ.out; rw [hl] at this; exact h0 this.symm
      | cons x r =>
        rw [hl] at h
        have hx : x = 45 := UInt8.toNat_inj.1 (by show x.toNat = 45; have : ((x.toNat : Nat) : Int) = 45 := h.symm; omega)
        subst hx
        rfl)
    have HDG : Hid (dgs s.data.toList = s.data.toList.drop 1) := Lib.hid (by unfold dgs; rw [HNG.out]; rfl)

    have HDL : Hid ((dgs s.data.toList).length + 1 = s.size) := Lib.hid (by rw [HDG.out, ← HSZ.out]; rw [List.length_drop]; have := HSZ.out; omega)
    have HDB : Hid (∀ k, (((dgs s.data.toList).getD k 0).toNat : Int) = bt s (k + 1)) := Lib.hid (fun k => by rw [HBL.out, HDG.out]; congr 1; rw [List.getD_eq_getElem?_getD, List.getD_eq_getElem?_getD, List.getElem?_drop, Nat.add_comm])
    generalize hD : dgs s.data.toList = D at *
    have HDD := Lib.hid hD
    clear hD
    by_cases hz : s.size = 1
    · obtain ⟨rfl, rfl⟩ := HNO.out (by unfold numB; rw [HDD.out, decide_eq_false (by have := HDL.out; omega)]; rfl)
      clear h0
      go_enter Tryd.func57, Tryd.ntmps57
      go_wp2
      go_ret2
      exact ⟨rfl, rfl⟩
    have hszl : (1 : Int) < s.size := by have := HDL.out; omega
    have hszb : ((s.size : Int) == 1) = false := by rw [beq_eq_false_iff_ne]; omega
    by_cases h18 : (s.size : Int) - 1 ≤ 18
    rotate_left
    · obtain ⟨rfl, rfl⟩ := HNO.out (by unfold numB; rw [HDD.out, decide_eq_false (show ¬ D.length ≤ 18 by have := HDL.out; omega)]; simp)
      go_enter Tryd.func57, Tryd.ntmps57
      go_wp2
      go_ret2
      exact ⟨rfl, rfl⟩
    by_cases h48 : bt s 1 = 48 ∧ 1 < s.size
    · obtain ⟨h48, h1s⟩ := h48
      obtain ⟨rfl, rfl⟩ := HNO.out (by
        unfold numB
        have e : (D.head? == some 48) = true := by
          have h := HDB.out 0
          rw [Nat.zero_add, h48] at h
          cases hl : D with
          | nil => exfalso; have := HDL.out; rw [hl] at this; simp at this; omega
          | cons x r =>
            rw [hl] at h
            have hx : x = 48 := UInt8.toNat_inj.1 (by show x.toNat = 48; have : ((x.toNat : Nat) : Int) = 48 := h; omega)
            subst hx
            rfl
        rw [HDD.out, e, decide_eq_true (show 1 < s.data.toList.length by rw [HSZ.out]; exact h1s)]; simp)
      go_enter Tryd.func57, Tryd.ntmps57
      go_wp2
      go_ret2
      exact ⟨rfl, rfl⟩
    obtain ⟨m, m1, m2, m3⟩ := first_stop (fun k => isD (D.getD k 0)) D.length
    have HV : Hid (V = decide (m = D.length)) := Lib.hid (by
      rw [HR.out.2]; unfold numB
      have e1 : D.length ≠ 0 := by have := HDL.out; omega
      have e2 : D.length ≤ 18 := by have := HDL.out; omega
      have e3 : ((D.head? == some 48) && decide (1 < s.data.toList.length)) = false := by
        rw [Bool.and_eq_false_iff]
        by_cases h1s : 1 < s.size
        · left
          have hne : ¬ bt s 1 = 48 := fun h => h48 ⟨h, h1s⟩
          have h := HDB.out 0
          rw [Nat.zero_add] at h
          cases hl : D with
          | nil => rfl
          | cons x r =>
            rw [hl] at h
            rw [beq_eq_false_iff_ne]
            intro e
            have e : some x = some 48 := e
            injection e with e
            subst e
            exact hne h.symm
        · right; rw [HSZ.out]; exact decide_eq_false h1s
      rw [HDD.out, decide_eq_true e1, decide_eq_true e2, e3, all_stop m1 m2 m3]; rfl)
    have hnt : ¬ (bt s 1 = 48 ∧ 1 < s.size) := h48
    have M2 := Lib.hid m2
    have M3 := Lib.hid m3
    have M1 := Lib.hid m1
    have HRV : Hid (V = true → R = -(valD 0 D : Int)) := Lib.hid (fun hv => by
      have h : numB s.data.toList = true := by rw [← HR.out.2]; exact hv
      rw [HR.out.1, numN_yes h]; unfold numV; rw [HDD.out, HNG.out]; rfl)
    clear m2 m3
    have hgo : bt s 1 = 48 ∧ s.size = 1 ∨ bt s 1 ≠ 48 := by
      by_cases e : bt s 1 = 48
      · exact .inl ⟨e, by have : ¬ 1 < s.size := fun h => h48 ⟨e, h⟩; omega⟩
      · exact .inr e
    clear h48 hnt
    rcases hgo with ⟨hg, hg1⟩ | hg
    · exfalso; have h1 : s.size = 1 := hg1; exact hz h1
    · have hgb : (bt s 1 == 48) = false := by rw [beq_eq_false_iff_ne]; exact hg
      go_enter Tryd.func57, Tryd.ntmps57
      go_wp2
      go_loop [5, 6] (fun v i => ∃ j : Nat, j ≤ m ∧ i = .int .i64 ((j + 1 : Nat) : Int) ∧ v = .int .i64 (valD 0 (D.take j) : Int)) (fun _ i => s.size - (intOf i).toNat)
      case atStart => exact ⟨0, Nat.zero_le _, by simp, by rw [List.take_zero]; rfl⟩
      case round =>
        obtain ⟨j, hj, rfl, rfl⟩ := hrel
        have hm1 := M1.out
        have hdl := HDL.out
        obtain ⟨i, hi⟩ : ∃ i : Nat, i = j + 1 := ⟨_, rfl⟩
        rw [← hi]
        by_cases hlt : j < D.length
        · have hbj : ((D.getD j 0).toNat : Int) = bt s i := by rw [hi]; exact HDB.out j
          have hbo : bt s i ≤ 255 := bt_le s _
          have hb0 : 0 ≤ bt s i := bt_nonneg s _
          have HDj := Lib.hid (fun W => l01DigR_any (bt s i) W hb0 hbo)
          have i0 : (0 : Int) ≤ (i : Int) := by omega
          have i1 : (i : Int) < s.size := by omega
          have HST := Lib.hid (valD_take (D := D) (j := j) hlt)
          by_cases hjm : j < m
          · have hp := isD_iff.1 (M2.out j hjm)
            have hsm := valD_small (D := D) (j := j) (m := m) (by omega) hm1 (by omega) M2.out
            have hc1 : 48 ≤ bt s i := by omega
            have hc2 : bt s i ≤ 57 := by omega
            have HDk := Lib.hid (fun W => eqb (HDj.out W) (show (decide (48 ≤ bt s i) && decide (bt s i ≤ 57)) = true by rw [decide_eq_true hc1, decide_eq_true hc2]; rfl))
            have HE : Hid ((valD 0 (D.take (j + 1)) : Int) = 10 * (valD 0 (D.take j) : Int) + (bt s i - 48)) := Lib.hid (by rw [HST.out]; omega)
            obtain ⟨v, hv⟩ : ∃ v : Int, v = (valD 0 (D.take j) : Int) := ⟨_, rfl⟩
            have hv0 : 0 ≤ v := by omega
            have hv1 : v < 100000000000000000 := by omega
            rw [← hv]
            rw [← hv] at HE
            clear hp hbj hm1 hdl hv hsm
            have HEI := Lib.hid hi
            clear hi
            go_wp2_with (go_at_call 65; refine (HDk.out _).mono ?_; rintro e w' ⟨rfl, rfl⟩)
            go_round
            case rel => exact ⟨j + 1, by omega, by rw [HEI.out]; go_num, by first | (rw [HE.out]; done) | (rw [HE.out]; go_num)⟩
            case measure => simp [intOf]; have := HEI.out; omega
          · obtain rfl : j = m := by omega
            have hp := M3.out hlt
            have HVF : Hid (V = false) := Lib.hid (by rw [HV.out]; exact decide_eq_false (by omega))
            have hnd : ¬ (48 ≤ bt s i ∧ bt s i ≤ 57) := fun h => by
              have : isD (D.getD j 0) = true := isD_iff.2 (by omega)
              rw [this] at hp; cases hp
            have HDk := Lib.hid (fun W => eqb (HDj.out W) (show (decide (48 ≤ bt s i) && decide (bt s i ≤ 57)) = false by
              rw [Bool.and_eq_false_iff, decide_eq_false_iff_not, decide_eq_false_iff_not]; omega))
            have HR0 : Hid (R = 0) := Lib.hid (HNO.out (by rw [← HR.out.2]; exact HVF.out)).1
            obtain ⟨v, hv⟩ : ∃ v : Int, v = (valD 0 (D.take j) : Int) := ⟨_, rfl⟩
            rw [← hv]
            clear hp hbj hm1 hdl hv hnd HNO
            have HEI := Lib.hid hi
            clear hi
            go_wp2_with (go_at_call 65; refine (HDk.out _).mono ?_; rintro e w' ⟨rfl, rfl⟩)
            go_ret2
            exact ⟨by rw [HR0.out, HVF.out]; rfl, rfl⟩
        · have hjD : j = D.length := by omega
          have HVT : Hid (V = true) := Lib.hid (by rw [HV.out]; exact decide_eq_true (by omega))
          have HRT : Hid (R = -(valD 0 (D.take j) : Int)) := Lib.hid (by rw [HRV.out HVT.out, hjD, List.take_length])
          have i1 : ¬ (i : Int) < s.size := by omega
          have hsm := valD_lt D 0 (fun b hb => by
            have h := all_stop m1 M2.out M3.out
            rw [decide_eq_true (show m = D.length by omega)] at h
            exact List.all_eq_true.1 h b hb)
          have h5 : 10 ^ D.length ≤ 10 ^ 18 := Nat.pow_le_pow_right (by decide) (by omega)
          have hsm2 : valD 0 (D.take j) < 1000000000000000000 := by rw [hjD, List.take_length]; omega
          obtain ⟨v, hv⟩ : ∃ v : Int, v = (valD 0 (D.take j) : Int) := ⟨_, rfl⟩
          have hv0 : 0 ≤ v := by omega
          have hv1 : v < 1000000000000000000 := by omega
          rw [← hv]
          rw [← hv] at HRT
          clear hsm h5 hsm2 hv hm1 hdl hjD
          clear hi
          go_wp2
          go_ret2
          exact ⟨by rw [HRT.out, HVT.out]; rfl, rfl⟩
  · have HNG : Hid (neg s.data.toList = false) := Lib.hid (by
      have h := HBL.out 0
      cases hl : s.data.toList with
      | nil => rfl
      | cons x r =>
        rw [hl] at h
        unfold neg
        rw [beq_eq_false_iff_ne]
        intro e
        have e : some x = some 45 := e
        injection e with e
        subst e
        exact h45 h)
    have HDG : Hid (dgs s.data.toList = s.data.toList) := Lib.hid (by unfold dgs; rw [HNG.out]; rfl)
    have h45b : (bt s 0 == 45) = false := by rw [beq_eq_false_iff_ne]; exact h45

    have HDL : Hid ((dgs s.data.toList).length = s.size) := Lib.hid (by rw [HDG.out, ← HSZ.out])
    have HDB : Hid (∀ k, (((dgs s.data.toList).getD k 0).toNat : Int) = bt s k) := Lib.hid (fun k => by rw [HBL.out, HDG.out])
    generalize hD : dgs s.data.toList = D at *
    have HDD := Lib.hid hD
    clear hD
    by_cases hz : s.size = 0
    · obtain ⟨rfl, rfl⟩ := HNO.out (by unfold numB; rw [HDD.out, decide_eq_false (by have := HDL.out; omega)]; rfl)
      clear h0
      go_enter Tryd.func57, Tryd.ntmps57
      go_wp2
      go_ret2
      exact ⟨rfl, rfl⟩
    have hszl : (0 : Int) < s.size := by have := HDL.out; omega
    have hszb : ((s.size : Int) == 0) = false := by rw [beq_eq_false_iff_ne]; omega
    by_cases h18 : (s.size : Int) ≤ 18
    rotate_left
    · obtain ⟨rfl, rfl⟩ := HNO.out (by unfold numB; rw [HDD.out, decide_eq_false (show ¬ D.length ≤ 18 by have := HDL.out; omega)]; simp)
      go_enter Tryd.func57, Tryd.ntmps57
      go_wp2
      go_ret2
      exact ⟨rfl, rfl⟩
    by_cases h48 : bt s 0 = 48 ∧ 1 < s.size
    · obtain ⟨h48, h1s⟩ := h48
      obtain ⟨rfl, rfl⟩ := HNO.out (by
        unfold numB
        have e : (D.head? == some 48) = true := by
          have h := HDB.out 0
          rw [h48] at h
          cases hl : D with
          | nil => exfalso; have := HDL.out; rw [hl] at this; simp at this; omega
          | cons x r =>
            rw [hl] at h
            have hx : x = 48 := UInt8.toNat_inj.1 (by show x.toNat = 48; have : ((x.toNat : Nat) : Int) = 48 := h; omega)
            subst hx
            rfl
        rw [HDD.out, e, decide_eq_true (show 1 < s.data.toList.length by rw [HSZ.out]; exact h1s)]; simp)
      go_enter Tryd.func57, Tryd.ntmps57
      go_wp2
      go_ret2
      exact ⟨rfl, rfl⟩
    obtain ⟨m, m1, m2, m3⟩ := first_stop (fun k => isD (D.getD k 0)) D.length
    have HV : Hid (V = decide (m = D.length)) := Lib.hid (by
      rw [HR.out.2]; unfold numB
      have e1 : D.length ≠ 0 := by have := HDL.out; omega
      have e2 : D.length ≤ 18 := by have := HDL.out; omega
      have e3 : ((D.head? == some 48) && decide (1 < s.data.toList.length)) = false := by
        rw [Bool.and_eq_false_iff]
        by_cases h1s : 1 < s.size
        · left
          have hne : ¬ bt s 0 = 48 := fun h => h48 ⟨h, h1s⟩
          have h := HDB.out 0
          cases hl : D with
          | nil => rfl
          | cons x r =>
            rw [hl] at h
            rw [beq_eq_false_iff_ne]
            intro e
            have e : some x = some 48 := e
            injection e with e
            subst e
            exact hne h.symm
        · right; rw [HSZ.out]; exact decide_eq_false h1s
      rw [HDD.out, decide_eq_true e1, decide_eq_true e2, e3, all_stop m1 m2 m3]; rfl)
    have hnt : ¬ (bt s 0 = 48 ∧ 1 < s.size) := h48
    have M2 := Lib.hid m2
    have M3 := Lib.hid m3
    have M1 := Lib.hid m1
    have HRV : Hid (V = true → R = (valD 0 D : Int)) := Lib.hid (fun hv => by
      have h : numB s.data.toList = true := by rw [← HR.out.2]; exact hv
      rw [HR.out.1, numN_yes h]; unfold numV; rw [HDD.out, HNG.out]; rfl)
    clear m2 m3
    have hgo : bt s 0 = 48 ∧ s.size = 1 ∨ bt s 0 ≠ 48 := by
      by_cases e : bt s 0 = 48
      · exact .inl ⟨e, by have : ¬ 1 < s.size := fun h => h48 ⟨e, h⟩; omega⟩
      · exact .inr e
    clear h48 hnt
    rcases hgo with ⟨hg, hg1⟩ | hg
    · have hgb : (bt s 0 == 48) = true := by rw [beq_iff_eq]; exact hg
      go_enter Tryd.func57, Tryd.ntmps57
      go_wp2
      go_loop [5, 6] (fun v i => ∃ j : Nat, j ≤ m ∧ i = .int .i64 ((j : Nat) : Int) ∧ v = .int .i64 (valD 0 (D.take j) : Int)) (fun _ i => s.size - (intOf i).toNat)
      case atStart => exact ⟨0, Nat.zero_le _, by simp, by rw [List.take_zero]; rfl⟩
      case round =>
        obtain ⟨j, hj, rfl, rfl⟩ := hrel
        have hm1 := M1.out
        have hdl := HDL.out
        by_cases hlt : j < D.length
        · have hbj : ((D.getD j 0).toNat : Int) = bt s j := HDB.out j
          have hbo : bt s j ≤ 255 := bt_le s _
          have hb0 : 0 ≤ bt s j := bt_nonneg s _
          have HDj := Lib.hid (fun W => l01DigR_any (bt s j) W hb0 hbo)
          have i0 : (0 : Int) ≤ (j : Int) := by omega
          have i1 : (j : Int) < s.size := by omega
          have HST := Lib.hid (valD_take (D := D) (j := j) hlt)
          by_cases hjm : j < m
          · have hp := isD_iff.1 (M2.out j hjm)
            have hsm := valD_small (D := D) (j := j) (m := m) (by omega) hm1 (by omega) M2.out
            have hc1 : 48 ≤ bt s j := by omega
            have hc2 : bt s j ≤ 57 := by omega
            have HDk := Lib.hid (fun W => eqb (HDj.out W) (show (decide (48 ≤ bt s j) && decide (bt s j ≤ 57)) = true by rw [decide_eq_true hc1, decide_eq_true hc2]; rfl))
            have HE : Hid ((valD 0 (D.take (j + 1)) : Int) = 10 * (valD 0 (D.take j) : Int) + (bt s j - 48)) := Lib.hid (by rw [HST.out]; omega)
            obtain ⟨v, hv⟩ : ∃ v : Int, v = (valD 0 (D.take j) : Int) := ⟨_, rfl⟩
            have hv0 : 0 ≤ v := by omega
            have hv1 : v < 100000000000000000 := by omega
            rw [← hv]
            rw [← hv] at HE
            clear hp hbj hm1 hdl hv hsm
            go_wp2_with (go_at_call 65; refine (HDk.out _).mono ?_; rintro e w' ⟨rfl, rfl⟩)
            go_round
            case rel => exact ⟨j + 1, by omega, by go_num, by first | (rw [HE.out]; done) | (rw [HE.out]; go_num)⟩
            case measure => simp [intOf]; omega
          · obtain rfl : j = m := by omega
            have hp := M3.out hlt
            have HVF : Hid (V = false) := Lib.hid (by rw [HV.out]; exact decide_eq_false (by omega))
            have hnd : ¬ (48 ≤ bt s j ∧ bt s j ≤ 57) := fun h => by
              have : isD (D.getD j 0) = true := isD_iff.2 (by omega)
              rw [this] at hp; cases hp
            have HDk := Lib.hid (fun W => eqb (HDj.out W) (show (decide (48 ≤ bt s j) && decide (bt s j ≤ 57)) = false by
              rw [Bool.and_eq_false_iff, decide_eq_false_iff_not, decide_eq_false_iff_not]; omega))
            have HR0 : Hid (R = 0) := Lib.hid (HNO.out (by rw [← HR.out.2]; exact HVF.out)).1
            obtain ⟨v, hv⟩ : ∃ v : Int, v = (valD 0 (D.take j) : Int) := ⟨_, rfl⟩
            rw [← hv]
            clear hp hbj hm1 hdl hv hnd HNO
            go_wp2_with (go_at_call 65; refine (HDk.out _).mono ?_; rintro e w' ⟨rfl, rfl⟩)
            go_ret2
            exact ⟨by rw [HR0.out, HVF.out]; rfl, rfl⟩
        · have hjD : j = D.length := by omega
          have HVT : Hid (V = true) := Lib.hid (by rw [HV.out]; exact decide_eq_true (by omega))
          have HRT : Hid (R = (valD 0 (D.take j) : Int)) := Lib.hid (by rw [HRV.out HVT.out, hjD, List.take_length])
          have i1 : ¬ (j : Int) < s.size := by omega
          have hsm := valD_lt D 0 (fun b hb => by
            have h := all_stop m1 M2.out M3.out
            rw [decide_eq_true (show m = D.length by omega)] at h
            exact List.all_eq_true.1 h b hb)
          have h5 : 10 ^ D.length ≤ 10 ^ 18 := Nat.pow_le_pow_right (by decide) (by omega)
          have hsm2 : valD 0 (D.take j) < 1000000000000000000 := by rw [hjD, List.take_length]; omega
          obtain ⟨v, hv⟩ : ∃ v : Int, v = (valD 0 (D.take j) : Int) := ⟨_, rfl⟩
          have hv0 : 0 ≤ v := by omega
          have hv1 : v < 1000000000000000000 := by omega
          rw [← hv]
          rw [← hv] at HRT
          clear hsm h5 hsm2 hv hm1 hdl hjD
          go_wp2
          go_ret2
          exact ⟨by rw [HRT.out, HVT.out]; rfl, rfl⟩
    · have hgb : (bt s 0 == 48) = false := by rw [beq_eq_false_iff_ne]; exact hg
      go_enter Tryd.func57, Tryd.ntmps57
      go_wp2
      go_loop [5, 6] (fun v i => ∃ j : Nat, j ≤ m ∧ i = .int .i64 ((j : Nat) : Int) ∧ v = .int .i64 (valD 0 (D.take j) : Int)) (fun _ i => s.size - (intOf i).toNat)
      case atStart => exact ⟨0, Nat.zero_le _, by simp, by rw [List.take_zero]; rfl⟩
      case round =>
        obtain ⟨j, hj, rfl, rfl⟩ := hrel
        have hm1 := M1.out
        have hdl := HDL.out
        by_cases hlt : j < D.length
        · have hbj : ((D.getD j 0).toNat : Int) = bt s j := HDB.out j
          have hbo : bt s j ≤ 255 := bt_le s _
          have hb0 : 0 ≤ bt s j := bt_nonneg s _
          have HDj := Lib.hid (fun W => l01DigR_any (bt s j) W hb0 hbo)
          have i0 : (0 : Int) ≤ (j : Int) := by omega
          have i1 : (j : Int) < s.size := by omega
          have HST := Lib.hid (valD_take (D := D) (j := j) hlt)
          by_cases hjm : j < m
          · have hp := isD_iff.1 (M2.out j hjm)
            have hsm := valD_small (D := D) (j := j) (m := m) (by omega) hm1 (by omega) M2.out
            have hc1 : 48 ≤ bt s j := by omega
            have hc2 : bt s j ≤ 57 := by omega
            have HDk := Lib.hid (fun W => eqb (HDj.out W) (show (decide (48 ≤ bt s j) && decide (bt s j ≤ 57)) = true by rw [decide_eq_true hc1, decide_eq_true hc2]; rfl))
            have HE : Hid ((valD 0 (D.take (j + 1)) : Int) = 10 * (valD 0 (D.take j) : Int) + (bt s j - 48)) := Lib.hid (by rw [HST.out]; omega)
            obtain ⟨v, hv⟩ : ∃ v : Int, v = (valD 0 (D.take j) : Int) := ⟨_, rfl⟩
            have hv0 : 0 ≤ v := by omega
            have hv1 : v < 100000000000000000 := by omega
            rw [← hv]
            rw [← hv] at HE
            clear hp hbj hm1 hdl hv hsm
            go_wp2_with (go_at_call 65; refine (HDk.out _).mono ?_; rintro e w' ⟨rfl, rfl⟩)
            go_round
            case rel => exact ⟨j + 1, by omega, by go_num, by first | (rw [HE.out]; done) | (rw [HE.out]; go_num)⟩
            case measure => simp [intOf]; omega
          · obtain rfl : j = m := by omega
            have hp := M3.out hlt
            have HVF : Hid (V = false) := Lib.hid (by rw [HV.out]; exact decide_eq_false (by omega))
            have hnd : ¬ (48 ≤ bt s j ∧ bt s j ≤ 57) := fun h => by
              have : isD (D.getD j 0) = true := isD_iff.2 (by omega)
              rw [this] at hp; cases hp
            have HDk := Lib.hid (fun W => eqb (HDj.out W) (show (decide (48 ≤ bt s j) && decide (bt s j ≤ 57)) = false by
              rw [Bool.and_eq_false_iff, decide_eq_false_iff_not, decide_eq_false_iff_not]; omega))
            have HR0 : Hid (R = 0) := Lib.hid (HNO.out (by rw [← HR.out.2]; exact HVF.out)).1
            obtain ⟨v, hv⟩ : ∃ v : Int, v = (valD 0 (D.take j) : Int) := ⟨_, rfl⟩
            rw [← hv]
            clear hp hbj hm1 hdl hv hnd HNO
            go_wp2_with (go_at_call 65; refine (HDk.out _).mono ?_; rintro e w' ⟨rfl, rfl⟩)
            go_ret2
            exact ⟨by rw [HR0.out, HVF.out]; rfl, rfl⟩
        · have hjD : j = D.length := by omega
          have HVT : Hid (V = true) := Lib.hid (by rw [HV.out]; exact decide_eq_true (by omega))
          have HRT : Hid (R = (valD 0 (D.take j) : Int)) := Lib.hid (by rw [HRV.out HVT.out, hjD, List.take_length])
          have i1 : ¬ (j : Int) < s.size := by omega
          have hsm := valD_lt D 0 (fun b hb => by
            have h := all_stop m1 M2.out M3.out
            rw [decide_eq_true (show m = D.length by omega)] at h
            exact List.all_eq_true.1 h b hb)
          have h5 : 10 ^ D.length ≤ 10 ^ 18 := Nat.pow_le_pow_right (by decide) (by omega)
          have hsm2 : valD 0 (D.take j) < 1000000000000000000 := by rw [hjD, List.take_length]; omega
          obtain ⟨v, hv⟩ : ∃ v : Int, v = (valD 0 (D.take j) : Int) := ⟨_, rfl⟩
          have hv0 : 0 ≤ v := by omega
          have hv1 : v < 1000000000000000000 := by omega
          rw [← hv]
          rw [← hv] at HRT
          clear hsm h5 hsm2 hv hm1 hdl hjD
          go_wp2
          go_ret2
          exact ⟨by rw [HRT.out, HVT.out]; rfl, rfl⟩
end Go.Proofs.YtemidjejelmdlaaDoor
