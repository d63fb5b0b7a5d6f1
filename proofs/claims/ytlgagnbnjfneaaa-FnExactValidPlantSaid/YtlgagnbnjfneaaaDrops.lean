/- The drops of a mine's airways: the program's and the reference's. Conditions: the bounds that each theorem names. -/
import Derived.Test.YtlgagnbnjfneaaaDrop
import Derived.Deep.RegionHeld3
import Derived.Deep.AppendLies
import Derived.Deep.DrawnRows
namespace Go.Proofs.Ytlgagnbnjfneaaa
open Go.RowKit
open Pl
def dropG (rs fs : List Int) (k : Nat) : Int := dropZ (rs.getD k 0) (fs.getD k 0)
def dropN (rs fs : List Int) (n : Nat) : List Int := (List.range n).map (dropG rs fs)
theorem dropN_succ (rs fs : List Int) (n : Nat) : dropN rs fs (n + 1) = dropN rs fs n ++ [dropG rs fs n] := by unfold dropN; rw [List.range_succ, List.map_append]; rfl
theorem dropN_length (rs fs : List Int) (n : Nat) : (dropN rs fs n).length = n := by simp [dropN]
def dropB (n : Nat) (rs fs : List Int) : Bool := (decide ((rs.length : Int) = n) && allIn rs 1 1000000) && (decide ((fs.length : Int) = n) && allIn fs (-100000) 100000)
noncomputable def dropF (J : Int) (xs : List Aw) (rs fs : List Int) : List Int × Int := if mineB J xs then (if dropB xs.length rs fs then (dropN rs fs fs.length, 0) else ([], 2)) else ([], 1)
theorem dropF_one {J : Int} {xs : List Aw} {rs fs : List Int} (h : mineB J xs = false) : dropF J xs rs fs = ([], 1) := by unfold dropF; rw [h]; rfl
theorem dropF_two {J : Int} {xs : List Aw} {rs fs : List Int} (h : mineB J xs = true) (h' : dropB xs.length rs fs = false) : dropF J xs rs fs = ([], 2) := by unfold dropF; rw [h, h']; rfl
theorem dropF_yes {J : Int} {xs : List Aw} {rs fs : List Int} (h : mineB J xs = true) (h' : dropB xs.length rs fs = true) : dropF J xs rs fs = (dropN rs fs fs.length, 0) := by unfold dropF; rw [h, h']; rfl
theorem dropB_in {n : Nat} {rs fs : List Int} (h : dropB n rs fs = true) : rs.length = n ∧ fs.length = n ∧ (∀ k, k < n → 1 ≤ rs.getD k 0 ∧ rs.getD k 0 ≤ 1000000) ∧ ∀ k, k < n → -100000 ≤ fs.getD k 0 ∧ fs.getD k 0 ≤ 100000 := by
  simp only [dropB, Bool.and_eq_true, decide_eq_true_eq] at h
  obtain ⟨⟨h1, h2⟩, h3, h4⟩ := h
  refine ⟨by omega, by omega, fun k hk => ?_, fun k hk => ?_⟩
  · rw [getD_pt (by omega)]; exact allIn_iff.1 h2 _ (List.getElem_mem (by omega))
  · rw [getD_pt (by omega)]; exact allIn_iff.1 h4 _ (List.getElem_mem (by omega))
theorem ret_vi {v : Value} {a b : Int} (h : a = b) : Ending.returned (.tuple #[v, .int .i64 a]) = .returned (.tuple #[v, .int .i64 b]) := by rw [h]
set_option maxRecDepth 100000 in
set_option maxHeartbeats 1600000 in
theorem DropsFor_i (J : Int) (A : Option Addr) (cp : Nat) (xs : List Aw) (A1 : Option Addr) (c1 : Nat) (rs : List Int) (A2 : Option Addr) (c2 : Nat) (fs : List Int) (w : World) (hx : (xs.length : Int) ≤ 1048576) (hF : FitsA xs) (hI : Recs encA 7 w.heap.size w A xs)
    (n1 : (rs.length : Int) ≤ 1048576) (hI1 : Ints w.heap.size w A1 rs) (hT1 : Fits rs) (n2 : (fs.length : Int) ≤ 1048576) (hI2 : Ints w.heap.size w A2 fs) (hT2 : Fits fs) :
    Calls Try.prog 14 #[.agg #[.int .i64 J, .slice A xs.length cp], .slice A1 rs.length c1, .slice A2 fs.length c2] w fun e w' => ∃ v, e = .returned (.tuple #[v, .int .i64 (dropF J xs rs fs).2]) ∧ Own w.heap.size w' v (dropF J xs rs fs).1 ∧ Below w.heap.size w w' := by
  obtain ⟨R, hR⟩ : ∃ R, R = dropF J xs rs fs := ⟨_, rfl⟩
  rw [← hR]
  have HR := Lib.hid hR
  clear hR
  have HNil := Lib.hid (Own.nil_ w.heap.size)
  obtain ⟨i0, hi, hz0, hz1, hz2⟩ := info_parts infoI
  have HF := Lib.hid (And.intro hi (And.intro hz0 (And.intro hz1 hz2)))
  clear hi hz0 hz1 hz2
  have HV := Lib.hid (fun (W : World) (hb : Below w.heap.size w W) => ValidMine_i J A cp xs w.heap.size W (by omega) hF (hI.below hb) hb.size)
  have H1 := Lib.hid (fun (W : World) (hb : Below w.heap.size w W) => hasList_any J A cp xs A1 c1 rs 1 1000000 w.heap.size W (by omega) (by omega) (hI1.below hb) hb.size hT1)
  have H2 := Lib.hid (fun (W : World) (hb : Below w.heap.size w W) => hasFlows_any J A cp xs A2 c2 fs w.heap.size W (by omega) (by omega) (hI2.below hb) hb.size hT2)
  have J1 := Lib.hid hI1
  have J2 := Lib.hid hI2
  clear hI hI1 hI2 hT1 hT2 hF
  cases hm : mineB J xs
  · have HG := Lib.hid (dropF_one (rs := rs) (fs := fs) hm)
    rw [hm] at HV
    clear hm
    go_enter Try.func14, Try.ntmps14
    go_wp2_with fail
    refine (HV.out _ (by go_grown)).mono ?_
    rintro e w1 ⟨rfl, hb1⟩
    obtain ⟨hc1, hf1⟩ := bcell hb1
    have q1_0 : w.heap.size < w1.heap.size := by have := hb1.size; simp at this; omega
    have be1 : Below w.heap.size w w1 := ((Below.refl w.heap.size w).alloc (by simp) _).trans (hb1.mono (by simp))
    have hbe := be1
    go_wp2_with fail
    go_ret2
    exact ⟨_, ret_vi (by rw [HR.out, HG.out]), by rw [HR.out, HG.out]; exact HNil.out _, hbe⟩
  rw [hm] at HV
  cases h1 : (decide ((rs.length : Int) = xs.length) && allIn rs 1 1000000)
  · have HG := Lib.hid (dropF_two (rs := rs) (fs := fs) hm (by unfold dropB; rw [h1]; rfl))
    rw [h1] at H1
    clear hm h1
    go_enter Try.func14, Try.ntmps14
    go_wp2_with fail
    refine (HV.out _ (by go_grown)).mono ?_
    rintro e w1 ⟨rfl, hb1⟩
    obtain ⟨hc1, hf1⟩ := bcell hb1
    have q1_0 : w.heap.size < w1.heap.size := by have := hb1.size; simp at this; omega
    have be1 : Below w.heap.size w w1 := ((Below.refl w.heap.size w).alloc (by simp) _).trans (hb1.mono (by simp))
    go_wp2_with fail
    refine (H1.out _ be1).mono ?_
    rintro e w2 ⟨rfl, hb2⟩
    obtain ⟨hc2, hf2⟩ := bcell hb2
    have q2_0 : w.heap.size < w2.heap.size := by have := hb2.size; omega
    have be2 : Below w.heap.size w w2 := be1.trans (hb2.mono (by omega))
    have hbe := be2
    go_wp2_with fail
    go_ret2
    exact ⟨_, ret_vi (by rw [HR.out, HG.out]), by rw [HR.out, HG.out]; exact HNil.out _, hbe⟩
  rw [h1] at H1
  cases h2 : (decide ((fs.length : Int) = xs.length) && allIn fs (-100000) 100000)
  · have HG := Lib.hid (dropF_two (rs := rs) (fs := fs) hm (by unfold dropB; rw [h1, h2]; rfl))
    rw [h2] at H2
    clear hm h1 h2
    go_enter Try.func14, Try.ntmps14
    go_wp2_with fail
    refine (HV.out _ (by go_grown)).mono ?_
    rintro e w1 ⟨rfl, hb1⟩
    obtain ⟨hc1, hf1⟩ := bcell hb1
    have q1_0 : w.heap.size < w1.heap.size := by have := hb1.size; simp at this; omega
    have be1 : Below w.heap.size w w1 := ((Below.refl w.heap.size w).alloc (by simp) _).trans (hb1.mono (by simp))
    go_wp2_with fail
    refine (H1.out _ be1).mono ?_
    rintro e w2 ⟨rfl, hb2⟩
    obtain ⟨hc2, hf2⟩ := bcell hb2
    have q2_0 : w.heap.size < w2.heap.size := by have := hb2.size; omega
    have be2 : Below w.heap.size w w2 := be1.trans (hb2.mono (by omega))
    go_wp2_with fail
    refine (H2.out _ be2).mono ?_
    rintro e w3 ⟨rfl, hb3⟩
    obtain ⟨hc3, hf3⟩ := bcell hb3
    have q3_0 : w.heap.size < w3.heap.size := by have := hb3.size; omega
    have be3 : Below w.heap.size w w3 := be2.trans (hb3.mono (by omega))
    have hbe := be3
    go_wp2_with fail
    go_ret2
    exact ⟨_, ret_vi (by rw [HR.out, HG.out]), by rw [HR.out, HG.out]; exact HNil.out _, hbe⟩
  have hB : dropB xs.length rs fs = true := by unfold dropB; rw [h1, h2]; rfl
  have HG := Lib.hid (dropF_yes (rs := rs) (fs := fs) hm hB)
  obtain ⟨e1, e2, b1, b2⟩ := dropB_in hB
  have HB1 := Lib.hid b1
  have HB2 := Lib.hid b2
  rw [h2] at H2
  have E12 := Lib.hid (show rs.length = fs.length by omega)
  have HXF := Lib.hid (show xs.length = fs.length by omega)
  clear hm h1 h2 hB b1 b2 e1 e2
  go_enter Try.func14, Try.ntmps14
  go_wp2_with fail
  refine (HV.out _ (by go_grown)).mono ?_
  rintro e w1 ⟨rfl, hb1⟩
  obtain ⟨hc1, hf1⟩ := bcell hb1
  have q1_0 : w.heap.size < w1.heap.size := by have := hb1.size; simp at this; omega
  have be1 : Below w.heap.size w w1 := ((Below.refl w.heap.size w).alloc (by simp) _).trans (hb1.mono (by simp))
  go_wp2_with fail
  refine (H1.out _ be1).mono ?_
  rintro e w2 ⟨rfl, hb2⟩
  obtain ⟨hc2, hf2⟩ := bcell hb2
  have q2_0 : w.heap.size < w2.heap.size := by have := hb2.size; omega
  have be2 : Below w.heap.size w w2 := be1.trans (hb2.mono (by omega))
  go_wp2_with fail
  refine (H2.out _ be2).mono ?_
  rintro e w3 ⟨rfl, hb3⟩
  obtain ⟨hc3, hf3⟩ := bcell hb3
  have q3_0 : w.heap.size < w3.heap.size := by have := hb3.size; omega
  have be3 : Below w.heap.size w w3 := be2.trans (hb3.mono (by omega))
  have hbe := be3
  go_wp2_with fail
  clear HV H1 H2
  go_loopw [8, 28] (fun v i wr => ∃ j : Nat, j ≤ fs.length ∧ i = .int .i64 j ∧ Below w.heap.size w wr ∧ Own w.heap.size wr v (dropN rs fs j)) (fun _ i _ => fs.length - (intOf i).toNat)
  case atStart => exact ⟨0, Nat.zero_le _, rfl, hbe, Own.nil_ _ _⟩
  case round =>
    obtain ⟨j, hj, rfl, hb, ho⟩ := hrel
    by_cases hlt : j < fs.length
    · obtain ⟨r1, r2⟩ := HB1.out j (by have := HXF.out; omega)
      obtain ⟨f1, f2⟩ := HB2.out j (by have := HXF.out; omega)
      obtain ⟨ad1, rfl, hab1, hd1⟩ := (J1.out.below hb).atD (k := j) (by have := E12.out; omega)
      obtain ⟨ad2, rfl, hab2, hd2⟩ := (J2.out.below hb).atD (k := j) hlt
      have hrl : (j : Int) < rs.length := by have := E12.out; omega
      have hfl : (j : Int) < fs.length := by omega
      have hj0 : (0 : Int) ≤ (j : Int) := by omega
      have HS := Lib.hid (dropN_succ rs fs j)
      have hjn : (dropN rs fs j).length ≤ 1048576 := by rw [dropN_length]; omega
      have HZ : Hid (dropG rs fs j = dropZ (rs.getD j 0) (fs.getD j 0)) := Lib.hid rfl
      have HO := Lib.hid ho
      clear ho hc1 hf1 hc2 hf2 hc3 hf3 hb1 hb2 hb3
      generalize rs.getD j 0 = r at *
      generalize fs.getD j 0 = f at *
      go_wp2_with fail
      refine (dropOf_any r f _ (by omega) (by omega) (by omega) (by omega)).mono ?_
      rintro e _ ⟨rfl, nq, rfl⟩
      have hbq := below_drewN hb nq
      have HO2 := Lib.hid (HO.out.later (below_drewN (Below.refl _ _) nq))
      generalize wr.drewN nq = wq at *
      generalize dropZ r f = z at *
      have hsz : w.heap.size ≤ wq.heap.size := hbq.size
      go_wp2_with (at_builtin; refine wpList_append_own_at _ rfl _ _ 25 rfl w.heap.size 2 i0 (.int .i64 0) 1 8 Try.underlying25 HF.out.1 HF.out.2.1 HF.out.2.2.1 HF.out.2.2.2 rfl (by decide) _ _ _ rfl (HO2.out.later ((Below.refl _ _).alloc (Nat.le_refl _) _)) ⟨wq.heap.size, 0, none⟩ 1 1 [.int .i64 (z)] rfl rfl (cell_one_new _ _ _) (by intro u hu; simp at hu; subst hu; rfl) (le_max (by omega)) (by omega) (by simp; omega) ?_; intro av aw ah ag an aa)
      have hbe2 : Below w.heap.size w aw := Below.appended hbq HO2.out hsz ag
      have ho' := Own.appended ah
      clear ah ag an aa
      have HO3 := Lib.hid ho'
      clear ho'
      go_wp2
      go_roundw
      case rel =>
        refine ⟨j + 1, by omega, by go_num, hbe2, ?_⟩
        rw [HS.out, HZ.out]
        exact HO3.out
      case measure => simp [intOf]; omega
    · obtain rfl : j = fs.length := by omega
      have HO := Lib.hid ho
      clear ho
      go_wp2
      go_ret2
      exact ⟨_, ret_vi (by rw [HR.out, HG.out]), by rw [HR.out, HG.out]; exact HO.out, hb⟩
def dropP (rs fs : List Int) (k : Nat) : Bool := inB (rs.getD k 0) 1 1000000 && inB (fs.getD k 0) (-100000) 100000
theorem dropB_all {n : Nat} {rs fs : List Int} (h1 : rs.length = n) (h2 : fs.length = n) (h : ∀ k, k < n → dropP rs fs k = true) : dropB n rs fs = true := by
  have a : allIn rs 1 1000000 = true := allIn_iff.2 (fun x hx => by
    obtain ⟨k, hk, rfl⟩ := List.getElem_of_mem hx
    have := h k (by omega)
    simp only [dropP, Bool.and_eq_true] at this
    have := inB_iff.1 this.1
    rw [getD_pt hk] at this
    exact this)
  have b : allIn fs (-100000) 100000 = true := allIn_iff.2 (fun x hx => by
    obtain ⟨k, hk, rfl⟩ := List.getElem_of_mem hx
    have := h k (by omega)
    simp only [dropP, Bool.and_eq_true] at this
    have := inB_iff.1 this.2
    rw [getD_pt hk] at this
    exact this)
  unfold dropB
  rw [a, b, h1, h2]
  simp
theorem dropB_stop {n m : Nat} {rs fs : List Int} (hm : m < n) (h : dropP rs fs m = false) : dropB n rs fs = false := by
  cases hb : dropB n rs fs with
  | false => rfl
  | true =>
    obtain ⟨_, _, h3, h4⟩ := dropB_in hb
    have : dropP rs fs m = true := by
      unfold dropP
      rw [inB_iff.2 (h3 m hm), inB_iff.2 (h4 m hm)]
      rfl
    rw [h] at this
    exact absurd this (by decide)
set_option maxRecDepth 100000 in
set_option maxHeartbeats 1600000 in
theorem DropsFor_s (J : Int) (A : Option Addr) (cp : Nat) (xs : List Aw) (A1 : Option Addr) (c1 : Nat) (rs : List Int) (A2 : Option Addr) (c2 : Nat) (fs : List Int) (w : World) (hx : (xs.length : Int) ≤ 1048576) (hF : FitsA xs) (hI : Recs encA 7 w.heap.size w A xs)
    (_ : (rs.length : Int) ≤ 1048576) (hI1 : Ints w.heap.size w A1 rs) (n2 : (fs.length : Int) ≤ 1048576) (hI2 : Ints w.heap.size w A2 fs) :
    Calls Try.prog 11 #[.agg #[.int .i64 J, .slice A xs.length cp], .slice A1 rs.length c1, .slice A2 fs.length c2] w fun e w' => ∃ v, e = .returned (.tuple #[v, .int .i64 (dropF J xs rs fs).2]) ∧ Own w.heap.size w' v (dropF J xs rs fs).1 ∧ Below w.heap.size w w' := by
  obtain ⟨R, hR⟩ : ∃ R, R = dropF J xs rs fs := ⟨_, rfl⟩
  rw [← hR]
  have HR := Lib.hid hR
  clear hR
  have HNil := Lib.hid (Own.nil_ w.heap.size)
  obtain ⟨i0, hi, hz0, hz1, hz2⟩ := info_parts infoI
  have HF := Lib.hid (And.intro hi (And.intro hz0 (And.intro hz1 hz2)))
  clear hi hz0 hz1 hz2
  have hb0 : Below w.heap.size w (w.alloc (.cells #[.int .i64 J, .slice A xs.length cp] 31)) := by go_grown
  have HV := Lib.hid (l04Ok_any w.heap.size 0 J A cp xs w.heap.size (w.alloc (.cells #[.int .i64 J, .slice A xs.length cp] 31)) (by omega) hF (hI.below hb0) (by go_simp) (by go_simp))
  have hm1 : ∀ n, ((w.alloc (.cells #[.int .i64 J, .slice A xs.length cp] 31)).drewN n).cell? ⟨w.heap.size, 1, none⟩ = some (.slice A xs.length cp) := fun n => by go_simp
  have HM := Lib.hid hm1
  have HB0 := Lib.hid hb0
  have J1 := Lib.hid hI1
  have J2 := Lib.hid hI2
  clear hI hI1 hI2 hF hb0 hm1
  cases hm : mineB J xs
  · have HG := Lib.hid (dropF_one (rs := rs) (fs := fs) hm)
    rw [hm] at HV
    clear hm
    go_enter Try.func11, Try.ntmps11
    go_wp2_with fail
    refine HV.out.mono ?_
    rintro e _ ⟨rfl, n3, rfl⟩
    have hbe := below_drewN HB0.out n3
    go_wp2_with fail
    go_ret2
    exact ⟨_, ret_vi (by rw [HR.out, HG.out]), by rw [HR.out, HG.out]; exact HNil.out _, hbe⟩
  rw [hm] at HV
  by_cases hl : (rs.length : Int) = xs.length ∧ (fs.length : Int) = xs.length
  rotate_left
  · have hB : dropB xs.length rs fs = false := by
      cases hb : dropB xs.length rs fs with
      | false => rfl
      | true => obtain ⟨a, b, _, _⟩ := dropB_in hb; exact absurd ⟨by omega, by omega⟩ hl
    have HG := Lib.hid (dropF_two (rs := rs) (fs := fs) hm hB)
    have HL := Lib.hid hl
    clear hm hB hl
    by_cases hr : (rs.length : Int) = xs.length
    · have hf : ¬ (fs.length : Int) = xs.length := fun h => HL.out ⟨hr, h⟩
      go_enter Try.func11, Try.ntmps11
      go_wp2_with fail
      refine HV.out.mono ?_
      rintro e _ ⟨rfl, n3, rfl⟩
      have hbe := below_drewN HB0.out n3
      have hcm := HM.out n3
      generalize (w.alloc (.cells #[.int .i64 J, .slice A xs.length cp] 31)).drewN n3 = w3 at *
      go_wp2_with fail
      go_ret2
      exact ⟨_, ret_vi (by rw [HR.out, HG.out]), by rw [HR.out, HG.out]; exact HNil.out _, hbe⟩
    · go_enter Try.func11, Try.ntmps11
      go_wp2_with fail
      refine HV.out.mono ?_
      rintro e _ ⟨rfl, n3, rfl⟩
      have hbe := below_drewN HB0.out n3
      have hcm := HM.out n3
      generalize (w.alloc (.cells #[.int .i64 J, .slice A xs.length cp] 31)).drewN n3 = w3 at *
      go_wp2_with fail
      go_ret2
      exact ⟨_, ret_vi (by rw [HR.out, HG.out]), by rw [HR.out, HG.out]; exact HNil.out _, hbe⟩
  obtain ⟨l1, l2⟩ := hl
  obtain ⟨m, k1, k2, k3⟩ := first_stop (dropP rs fs) fs.length
  have hstop : (m = fs.length ∧ dropF J xs rs fs = (dropN rs fs fs.length, 0)) ∨ (m < fs.length ∧ dropP rs fs m = false ∧ dropF J xs rs fs = ([], 2)) := by
    by_cases e : m < fs.length
    · exact .inr ⟨e, k3 e, dropF_two hm (dropB_stop (by omega) (k3 e))⟩
    · have e' : m = fs.length := by omega
      exact .inl ⟨e', dropF_yes hm (dropB_all (by omega) (by omega) (fun k hk => k2 k (by omega)))⟩
  have HS := Lib.hid hstop
  have HP := Lib.hid k2
  have E12 := Lib.hid (show rs.length = fs.length by omega)
  clear hstop k2 k3 hm
  go_enter Try.func11, Try.ntmps11
  go_wp2_with fail
  refine HV.out.mono ?_
  rintro e _ ⟨rfl, n3, rfl⟩
  have hbe := below_drewN HB0.out n3
  have hcm := HM.out n3
  generalize (w.alloc (.cells #[.int .i64 J, .slice A xs.length cp] 31)).drewN n3 = w3 at *
  go_wp2_with fail
  clear hcm HV HM HB0
  go_loopw [8, 9] (fun v i wr => ∃ j : Nat, j ≤ m ∧ i = .int .i64 j ∧ Below w.heap.size w wr ∧ Own w.heap.size wr v (dropN rs fs j)) (fun _ i _ => fs.length - (intOf i).toNat)
  case atStart => exact ⟨0, Nat.zero_le _, rfl, hbe.alloc hbe.size _, Own.empty hbe.size⟩
  case round =>
    obtain ⟨j, hj, rfl, hb, ho⟩ := hrel
    by_cases hlt : j < m
    · have hP := HP.out j hlt
      simp only [dropP, Bool.and_eq_true] at hP
      obtain ⟨p1, p2⟩ := hP
      obtain ⟨r1, r2⟩ := inB_iff.1 p1
      obtain ⟨f1, f2⟩ := inB_iff.1 p2
      obtain ⟨ad1, rfl, hab1, hd1⟩ := (J1.out.below hb).atD (k := j) (by have := E12.out; omega)
      obtain ⟨ad2, rfl, hab2, hd2⟩ := (J2.out.below hb).atD (k := j) (by omega)
      have hrl : (j : Int) < rs.length := by have := E12.out; omega
      have hfl : (j : Int) < fs.length := by omega
      have hj0 : (0 : Int) ≤ (j : Int) := by omega
      have HU := Lib.hid (dropN_succ rs fs j)
      have hjn : (dropN rs fs j).length ≤ 1048576 := by rw [dropN_length]; omega
      have HZ : Hid (dropG rs fs j = dropZ (rs.getD j 0) (fs.getD j 0)) := Lib.hid rfl
      have HO := Lib.hid ho
      clear ho
      generalize rs.getD j 0 = r at *
      generalize fs.getD j 0 = f at *
      have V1 := Lib.hid (fun W => eqb (l03Res_any r W) p1)
      have V2 := Lib.hid (fun W => eqb (l03Flow_any f W) p2)
      have V3 := Lib.hid (fun W => l03Drop_any r f W (by omega) (by omega) (by omega) (by omega))
      clear p1 p2
      generalize dropZ r f = z at *
      go_wp2_with (first | (go_at_call 40; refine (V1.out _).mono ?_; rintro e w' ⟨rfl, rfl⟩) | (go_at_call 41; refine (V2.out _).mono ?_; rintro e w' ⟨rfl, rfl⟩))
      have hsz := hb.size
      go_region_held3 (fun w' => w'.cell? (ad1.add j) = some (.int .i64 r) ∧ w'.cell? (ad2.add j) = some (.int .i64 f))
        (first
          | go_keep
          | (go_split_ands
             refine ⟨?_, ?_⟩
             · exact ((Below.appended2 ((Below.refl wr.heap.size wr).mono hsz) HO.out hsz hgrow).cell (p := ad1.add j) (by rw [block_add]; exact hab1)).trans hd1
             · exact ((Below.appended2 ((Below.refl wr.heap.size wr).mono hsz) HO.out hsz hgrow).cell (p := ad2.add j) (by rw [block_add]; exact hab2)).trans hd2))
        (first
          | (go_at_call 42; refine (V3.out _).mono ?_; rintro e w' ⟨rfl, rfl⟩)
          | ((refine step_append_lies _ (by rfl) _ _ _ (by rfl) w.heap.size 2 i0 (.int .i64 0) 1 8 Try.underlying25 HF.out.1 HF.out.2.1 HF.out.2.2.1 HF.out.2.2.2 rfl (by decide) _ _ _ (by rfl) ((HO.out.alloc _).drew) ⟨wr.heap.size, 0, none⟩ 1 1 [.int .i64 z] (by rfl) (by rfl) (World.news_of_block (cs := #[.int .i64 z]) (t := 2) (fr := (0, 0)) (heap_alloc_new wr _)) (by simp [Value.oneCell']) (by omega) (le_max (by omega)) (by omega) (by simp; omega) (wr.heap.size + 1) (by simp) ?_; intro gg cap w1 hown1 hgrow hat hlt')))
      go_wp2
      go_roundw
      case rel =>
        have ho' := Own.appended hown1
        rw [← HZ.out, ← HU.out] at ho'
        exact ⟨j + 1, by omega, by go_num, Below.appended2 hb HO.out hsz hgrow, ho'⟩
      case measure => simp [intOf]; omega
    · obtain rfl : j = m := by omega
      rcases HS.out with ⟨e, hG⟩ | ⟨e, hp, hG⟩
      · have HO := Lib.hid ho
        have HG := Lib.hid hG
        have hfl : ¬ (j : Int) < fs.length := by omega
        have HE := Lib.hid e
        clear ho hG e
        go_wp2
        go_ret2
        exact ⟨_, ret_vi (by rw [HR.out, HG.out]), by rw [HR.out, HG.out]; have h := HO.out; rw [HE.out] at h; exact h, hb⟩
      · have HG := Lib.hid hG
        obtain ⟨ad1, rfl, hab1, hd1⟩ := (J1.out.below hb).atD (k := j) (by have := E12.out; omega)
        obtain ⟨ad2, rfl, hab2, hd2⟩ := (J2.out.below hb).atD (k := j) e
        have hrl : (j : Int) < rs.length := by have := E12.out; omega
        have hfl : (j : Int) < fs.length := by omega
        have hj0 : (0 : Int) ≤ (j : Int) := by omega
        unfold dropP at hp
        clear ho hG
        generalize rs.getD j 0 = r at *
        generalize fs.getD j 0 = f at *
        cases p1 : inB r 1 1000000
        · have V1 := Lib.hid (fun W => eqb (l03Res_any r W) p1)
          clear p1 hp
          go_wp2_with (go_at_call 40; refine (V1.out _).mono ?_; rintro e w' ⟨rfl, rfl⟩)
          go_ret2
          exact ⟨_, ret_vi (by rw [HR.out, HG.out]), by rw [HR.out, HG.out]; exact HNil.out _, hb⟩
        · have p2 : inB f (-100000) 100000 = false := by rw [p1] at hp; exact hp
          have V1 := Lib.hid (fun W => eqb (l03Res_any r W) p1)
          have V2 := Lib.hid (fun W => eqb (l03Flow_any f W) p2)
          clear p1 p2 hp
          go_wp2_with (first | (go_at_call 40; refine (V1.out _).mono ?_; rintro e w' ⟨rfl, rfl⟩) | (go_at_call 41; refine (V2.out _).mono ?_; rintro e w' ⟨rfl, rfl⟩))
          go_ret2
          exact ⟨_, ret_vi (by rw [HR.out, HG.out]), by rw [HR.out, HG.out]; exact HNil.out _, hb⟩
end Go.Proofs.Ytlgagnbnjfneaaa
