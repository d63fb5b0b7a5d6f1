/- Flows behind a joint that is mended: the program's and the reference's; and the walk of the law. Conditions: the bounds that each theorem names. -/
import Derived.Test.YtmfbdngibbkciaaLoss
import Derived.Test.YtmfbdngibbkciaaClone
import Derived.Test.YtmfbdngibbkciaaUp
import Derived.Test.YtmfbdngibbkciaaLater
import Derived.RegionTactic
import Derived.BigRegion
namespace Go.Proofs.Ytmfbdngibbkciaa
open Go.RowKit
open Pl
/-- The flows, those behind joint k and ahead of place j mended. -/
def mendN (xs : List Int) (k j : Nat) : List Int := (List.range xs.length).map fun i => if k < i ∧ i < j then xs.getD i 0 + (xs.getD k 0 - xs.getD (k + 1) 0) else xs.getD i 0
theorem mendN_length (xs : List Int) (k j : Nat) : (mendN xs k j).length = xs.length := by simp [mendN]
theorem mendN_get (xs : List Int) (k j i : Nat) (h : i < (mendN xs k j).length) : (mendN xs k j)[i] = if k < i ∧ i < j then xs.getD i 0 + (xs.getD k 0 - xs.getD (k + 1) 0) else xs.getD i 0 := by simp [mendN]
theorem mendN_start (xs : List Int) (k : Nat) : mendN xs k (k + 1) = xs := by
  apply List.ext_getElem
  · exact mendN_length _ _ _
  · intro i h1 h2
    rw [mendN_get, if_neg (by omega), getD_at h2]
theorem mendN_set (xs : List Int) (k j : Nat) (hk : k < j) : (mendN xs k j).set j (xs.getD j 0 + (xs.getD k 0 - xs.getD (k + 1) 0)) = mendN xs k (j + 1) := by
  apply List.ext_getElem
  · simp [mendN_length]
  · intro i h1 h2
    rw [List.getElem_set, mendN_get]
    split
    · rename_i e; subst e; rw [mendN_get, if_pos (by omega)]
    · rw [mendN_get]
      by_cases h : k < i ∧ i < j
      · rw [if_pos h, if_pos (by omega)]
      · rw [if_neg h, if_neg (by omega)]
theorem mendN_take (xs : List Int) (k i : Nat) (hi : i < xs.length) : (mendN xs k xs.length).take (i + 1) = (mendN xs k xs.length).take i ++ [if i ≤ k then xs.getD i 0 else xs.getD i 0 + (xs.getD k 0 - xs.getD (k + 1) 0)] := by
  have h : i < (mendN xs k xs.length).length := by rw [mendN_length]; exact hi
  rw [List.take_succ_eq_append_getElem h, mendN_get]
  congr 2
  by_cases e : i ≤ k
  · rw [if_pos e, if_neg (by omega)]
  · rw [if_neg e, if_pos (by omega)]
def mendF (xs : List Int) (k : Int) : List Int × Int := if flowsCode xs = 0 then (if inB k 0 ((xs.length : Int) - 2) then (mendN xs k.toNat xs.length, 0) else ([], 3)) else ([], flowsCode xs)
theorem mendF_len (xs : List Int) (k : Int) (hn : (xs.length : Int) ≤ 1048576) (_ : -9223372036854775808 ≤ k ∧ k ≤ 9223372036854775807) : (mendF xs k).1.length ≤ 1048576 := by
  unfold mendF
  split
  · split
    · simp [mendN_length]; omega
    · simp
  · simp
theorem ret_vi {v : Value} {a b : Int} (h : a = b) : Ending.returned (.tuple #[v, .int .i64 a]) = .returned (.tuple #[v, .int .i64 b]) := by rw [h]
theorem inB_len (n : Nat) (k : Int) : inB k 0 (((n - 1 : Nat) : Int) - 1) = inB k 0 ((n : Int) - 2) := by
  rw [Bool.eq_iff_iff, inB_iff, inB_iff]; omega
set_option maxRecDepth 100000 in
set_option maxHeartbeats 1600000 in
theorem MendJoint_i (A : Option Addr) (c : Nat) (xs : List Int) (k : Int) (w : World) (hn : (xs.length : Int) ≤ 1048576) (hI : Ints w.heap.size w A xs) (hT : Fits xs) (_ : -9223372036854775808 ≤ k ∧ k ≤ 9223372036854775807) :
    Calls Try.prog 33 #[.slice A xs.length c, .int .i64 k] w fun e w' => ∃ v, e = .returned (.tuple #[v, .int .i64 (mendF xs k).2]) ∧ Own w.heap.size w' v (mendF xs k).1 ∧ Below w.heap.size w w' := by
  have HC := ductFlowsCode_any A c xs w.heap.size w hn hI (Nat.le_refl _) hT
  obtain ⟨R, hR⟩ : ∃ R, R = mendF xs k := ⟨_, rfl⟩
  rw [← hR]
  have HR := Lib.hid hR
  clear hR
  have HNil := Lib.hid (Own.nil_ w.heap.size)
  rcases flowsCode_or xs with h | ⟨h, h'⟩
  · obtain ⟨h1, h2, h3⟩ := flowsCode_zero h
    rw [h] at HC
    have HL := Lib.hid (fun (W : World) (hb : Below w.heap.size w W) => lossesOf_any A c xs w.heap.size W h1 (hI.below hb) hb.size h2)
    have HC := Lib.hid HC
    have HK := Lib.hid (fun (W : World) (hb : Below w.heap.size w W) => Clone_any A c xs w.heap.size W (by omega) (hI.below hb))
    have HX := Lib.hid h2
    have H0 := Lib.hid h
    have hz' : ((0 : Int) != 0) = false := rfl
    clear h h2 h3 hI hT
    cases hk : inB k 0 ((xs.length : Int) - 2)
    · have HV := Lib.hid (fun A c W => eqb (indexValid_any A c (xs.length - 1) k W (by omega)) ((inB_len xs.length k).trans hk))
      have HF : Hid (mendF xs k = ([], 3)) := Lib.hid (by unfold mendF; rw [if_pos H0.out, hk]; rfl)
      clear hk
      go_enter Try.func33, Try.ntmps33
      go_wp2_with fail
      refine HC.out.mono ?_
      rintro e w1 ⟨rfl, hb1⟩
      go_wp2_with fail
      refine (HL.out _ hb1).mono ?_
      rintro e w2 ⟨v, rfl, ho, hb2⟩
      obtain ⟨A', c', rfl, -, -⟩ := ho.slice
      have hb12 := hb1.trans (hb2.mono hb1.size)
      rw [lossF_length]
      clear ho
      go_wp2_with (go_at_call 81; refine (HV.out _ _ _).mono ?_; rintro e w' ⟨rfl, rfl⟩)
      go_ret2
      exact ⟨_, ret_vi (by rw [HR.out, HF.out]), by rw [HR.out, HF.out]; exact HNil.out _, hb12⟩
    · obtain ⟨hk1, hk2⟩ := inB_iff.1 hk
      have HV := Lib.hid (fun A c W => eqb (indexValid_any A c (xs.length - 1) k W (by omega)) ((inB_len xs.length k).trans hk))
      have HF : Hid (mendF xs k = (mendN xs k.toNat xs.length, 0)) := Lib.hid (by unfold mendF; rw [if_pos H0.out, hk]; rfl)
      obtain ⟨K, rfl⟩ := Int.eq_ofNat_of_zero_le hk1
      rw [Int.toNat_natCast] at HF
      clear hk
      go_enter Try.func33, Try.ntmps33
      go_wp2_with fail
      refine HC.out.mono ?_
      rintro e w1 ⟨rfl, hb1⟩
      go_wp2_with fail
      refine (HL.out _ hb1).mono ?_
      rintro e w2 ⟨v, rfl, ho, hb2⟩
      obtain ⟨A', c', rfl, hI', -⟩ := ho.slice
      have hb12 := hb1.trans (hb2.mono hb1.size)
      have J := Lib.hid hI'
      rw [lossF_length]
      clear ho hI'
      go_wp2_with (go_at_call 81; refine (HV.out _ _ _).mono ?_; rintro e w' ⟨rfl, rfl⟩)
      refine (HK.out _ hb12).mono ?_
      rintro e w3 ⟨v, rfl, ho, hb3⟩
      rcases ho.form with ⟨_, he⟩ | ⟨g, c3, rfl, hg1, hg2⟩
      · have : xs.length = 0 := by rw [he]; rfl
        exfalso; omega
      have HO := Lib.hid ho
      clear ho
      go_wp2
      go_loopw [9] (fun i wr => ∃ j : Nat, K < j ∧ j ≤ xs.length ∧ i = .int .i64 j ∧ Below w2.heap.size w2 wr ∧ wr.ownsRow w2.heap.size 2 1 (.slice (some ⟨g, 0, none⟩) xs.length c3) xs.length (vals (mendN xs K j))) (fun i _ => xs.length - (intOf i).toNat)
      case atStart => exact ⟨K + 1, by omega, by omega, by go_num, hb3, by rw [mendN_start]; exact HO.out⟩
      case round =>
        obtain ⟨j, hj1, hj2, rfl, hb, hown⟩ := hrel
        by_cases hlt : j < xs.length
        · have hl := mendN_length xs K j
          obtain ⟨ad, rfl, hab, hcl⟩ := (J.out.below hb).atD (k := K) (by rw [lossF_length]; omega)
          have e1 : (lossF xs (xs.length - 1)).getD K 0 = xs.getD K 0 - xs.getD (K + 1) 0 := by rw [getD_at (by rw [lossF_length]; omega)]; simp [lossF]
          have hco : wr.cell? ⟨g, j, none⟩ = some (.int .i64 (xs.getD j 0)) := by
            rw [World.ownsRow.cellAt hown j (by omega), vals_get (by rw [hl]; omega), mendN_get, if_neg (by omega)]
          have hfz : wr.frozen? ⟨g, j, none⟩ = false := World.ownsRow.frozenAt hown j
          obtain ⟨a1, a2⟩ : 0 ≤ xs.getD j 0 ∧ xs.getD j 0 ≤ 100000 := by rw [getD_at hlt]; exact HX.out _ (List.getElem_mem hlt)
          obtain ⟨b1, b2⟩ : 0 ≤ xs.getD K 0 ∧ xs.getD K 0 ≤ 100000 := by rw [getD_at (by omega)]; exact HX.out _ (List.getElem_mem (by omega))
          obtain ⟨d1, d2⟩ : 0 ≤ xs.getD (K + 1) 0 ∧ xs.getD (K + 1) 0 ≤ 100000 := by rw [getD_at (by omega)]; exact HX.out _ (List.getElem_mem (by omega))
          have HS := Lib.hid (mendN_set xs K j hj1)
          rw [e1] at hcl
          have HO := Lib.hid hown
          clear e1 hl hown
          have hl1 : -100000 ≤ xs.getD K 0 - xs.getD (K + 1) 0 := by omega
          have hl2 : xs.getD K 0 - xs.getD (K + 1) 0 ≤ 100000 := by omega
          have hgz : w2.heap.size ≤ g := hg1
          generalize xs.getD K 0 - xs.getD (K + 1) 0 = l at *
          generalize xs.getD j 0 = x at *
          have i0 : (0 : Int) ≤ (j : Int) := by omega
          have i1 : (j : Int) < xs.length := by omega
          have k0 : (0 : Int) ≤ (K : Int) := by omega
          have k1 : (K : Int) < ((xs.length - 1 : Nat) : Int) := by omega
          go_wp2
          go_region
          go_wp2
          go_roundw
          case rel =>
            obtain ⟨r1, r2⟩ := World.ownsRow.stored HO.out j (.int .i64 (x + l))
            rw [vals_set, HS.out] at r1
            exact ⟨j + 1, by omega, by omega, by go_num, (hb.setCell (by simpa using hgz) _).drew, r1.drew⟩
          case measure => simp [intOf]; omega
        · obtain rfl : j = xs.length := by omega
          have HO := Lib.hid hown
          clear hown
          go_wp2
          go_ret2
          refine ⟨_, ret_vi (by rw [HR.out, HF.out]), ?_, hb12.trans (hb.mono hb12.size)⟩
          rw [HR.out, HF.out]
          have h := HO.out
          have ho : Own w2.heap.size wr (.slice (some ⟨g, 0, none⟩) xs.length c3) (mendN xs K xs.length) := by unfold Own; rw [mendN_length]; exact h
          exact ho.base (fun g' h' => Nat.le_trans hb12.size (World.ownsRow.lt ho g' h').1)
  · generalize hq0 : flowsCode xs = q at *
    have HF : Hid (mendF xs k = ([], q)) := Lib.hid (by unfold mendF; rw [if_neg (by omega), hq0])
    have HC := Lib.hid HC
    have hq : (q != 0) = true := by simp; omega
    clear hI hT h h' hq0
    go_enter Try.func33, Try.ntmps33
    go_wp2_with fail
    refine HC.out.mono ?_
    rintro e w1 ⟨rfl, hb1⟩
    go_wp2
    go_ret2
    exact ⟨_, ret_vi (by rw [HR.out, HF.out]), by rw [HR.out, HF.out]; exact HNil.out _, hb1⟩
set_option maxRecDepth 100000 in
set_option maxHeartbeats 1600000 in
theorem MendJoint_s (A : Option Addr) (c : Nat) (xs : List Int) (k : Int) (w : World) (hn : (xs.length : Int) ≤ 1048576) (hI : Ints w.heap.size w A xs) (hT : Fits xs) (_ : -9223372036854775808 ≤ k ∧ k ≤ 9223372036854775807) :
    Calls Try.prog 32 #[.slice A xs.length c, .int .i64 k] w fun e w' => ∃ v, e = .returned (.tuple #[v, .int .i64 (mendF xs k).2]) ∧ Own w.heap.size w' v (mendF xs k).1 ∧ Below w.heap.size w w' := by
  have HC := l11Flows_any A c xs w.heap.size w hn hI (Nat.le_refl _) hT
  obtain ⟨R, hR⟩ : ∃ R, R = mendF xs k := ⟨_, rfl⟩
  rw [← hR]
  have HR := Lib.hid hR
  clear hR
  have HNil := Lib.hid (Own.nil_ w.heap.size)
  obtain ⟨i0, hi, hz0, hz1, hz2⟩ := info_parts infoI
  have HF := Lib.hid (And.intro hi (And.intro hz0 (And.intro hz1 hz2)))
  clear hi hz0 hz1 hz2
  rcases flowsCode_or xs with h | ⟨h, h'⟩
  · obtain ⟨h1, h2, h3⟩ := flowsCode_zero h
    rw [h] at HC
    have HC := Lib.hid HC
    have J := Lib.hid hI
    have HX := Lib.hid h2
    have H0 := Lib.hid h
    have hz' : ((0 : Int) != 0) = false := rfl
    clear h h2 h3 hI hT
    cases hk : inB k 0 ((xs.length : Int) - 2)
    · have HG : Hid (mendF xs k = ([], 3)) := Lib.hid (by unfold mendF; rw [if_pos H0.out, hk]; rfl)
      have HV := Lib.hid (fun W => eqb (l00In_any k 0 ((xs.length : Int) - 2) W) hk)
      clear hk
      go_enter Try.func32, Try.ntmps32
      go_wp2_with fail
      refine HC.out.mono ?_
      rintro e w1 ⟨rfl, hb1⟩
      go_wp2_with (go_at_call 48; refine (HV.out _).mono ?_; rintro e w' ⟨rfl, rfl⟩)
      go_ret2
      exact ⟨_, ret_vi (by rw [HR.out, HG.out]), by rw [HR.out, HG.out]; exact HNil.out _, hb1⟩
    · obtain ⟨hk1, hk2⟩ := inB_iff.1 hk
      have HG : Hid (mendF xs k = (mendN xs k.toNat xs.length, 0)) := Lib.hid (by unfold mendF; rw [if_pos H0.out, hk]; rfl)
      have HV := Lib.hid (fun W => eqb (l00In_any k 0 ((xs.length : Int) - 2) W) hk)
      obtain ⟨K, rfl⟩ := Int.eq_ofNat_of_zero_le hk1
      rw [Int.toNat_natCast] at HG
      clear hk
      obtain ⟨ad, rfl, hab, hcK⟩ := J.out.atD (k := K) (by omega)
      obtain ⟨ad', h', _, hcM⟩ := J.out.atD (k := K + 1) (by omega)
      cases h'
      obtain ⟨b1, b2⟩ : 0 ≤ xs.getD K 0 ∧ xs.getD K 0 ≤ 100000 := by rw [getD_at (by omega)]; exact HX.out _ (List.getElem_mem (by omega))
      obtain ⟨d1, d2⟩ : 0 ≤ xs.getD (K + 1) 0 ∧ xs.getD (K + 1) 0 ≤ 100000 := by rw [getD_at (by omega)]; exact HX.out _ (List.getElem_mem (by omega))
      have HT := Lib.hid (mendN_take xs K)
      obtain ⟨m, hm⟩ : ∃ m, m = K + 1 := ⟨_, rfl⟩
      rw [← hm] at HT hcM d1 d2
      generalize xs.getD K 0 = x at *
      generalize xs.getD m 0 = y at *
      have i0' : (0 : Int) ≤ (K : Int) := by omega
      have i1' : (K : Int) < xs.length := by omega
      have j0 : (0 : Int) ≤ (m : Int) := by omega
      have j1 : (m : Int) < xs.length := by omega
      have hw : IntKind.i64.wrap ((K : Int) + 1) = (m : Int) := by rw [IntWalk.i64_in _ (by omega)]; omega
      obtain ⟨l, hl⟩ : ∃ l, x - y = l := ⟨_, rfl⟩
      have hw2 : IntKind.i64.wrap (x - y) = l := by rw [IntWalk.i64_in _ (by omega)]; omega
      have hl1 : -100000 ≤ l := by omega
      have hl2 : l ≤ 100000 := by omega
      have HLL := Lib.hid hl
      clear hl
      have HM := Lib.hid hm
      clear hm
      go_enter Try.func32, Try.ntmps32
      go_wp2_with fail
      refine HC.out.mono ?_
      rintro e w1 ⟨rfl, hb1⟩
      have hcK1 := (hb1.cell (p := ad.add K) (by rw [block_add]; exact hab)).trans hcK
      have hcM1 := (hb1.cell (p := ad.add m) (by rw [block_add]; exact hab)).trans hcM
      go_wp2_with (go_at_call 48; refine (HV.out _).mono ?_; rintro e w' ⟨rfl, rfl⟩)
      go_quiet (fail)
      clear hw hw2 hcK1 hcM1
      have hbq := below_drewN hb1 nq
      generalize w1.drewN nq = wq at *
      go_wp2
      go_loopw [8, 9] (fun v i wr => ∃ j : Nat, j ≤ xs.length ∧ i = .int .i64 j ∧ Below w.heap.size w wr ∧ Own w.heap.size wr v ((mendN xs K xs.length).take j)) (fun _ i _ => xs.length - (intOf i).toNat)
      case atStart => exact ⟨0, Nat.zero_le _, rfl, hbq.alloc hbq.size _, by rw [List.take_zero]; exact Own.empty hbq.size⟩
      case round =>
        obtain ⟨j, hj, rfl, hb, ho⟩ := hrel
        by_cases hlt : j < xs.length
        · obtain ⟨ad', h', _, hc⟩ := (J.out.below hb).atD hlt
          cases h'
          obtain ⟨a1, a2⟩ : 0 ≤ xs.getD j 0 ∧ xs.getD j 0 ≤ 100000 := by rw [getD_at hlt]; exact HX.out _ (List.getElem_mem hlt)
          have hs := HT.out j hlt
          have hl := mendN_length xs K xs.length
          have hll : ((mendN xs K xs.length).take j).length = j := by rw [List.length_take, hl]; omega
          have hsz := hb.size
          rw [HLL.out] at hs
          generalize xs.getD j 0 = z at *
          have HO := Lib.hid ho
          have HS := Lib.hid hs
          have HLN := Lib.hid hll
          have hjn : ((mendN xs K xs.length).take j).length ≤ 1048576 := by rw [hll]; omega
          clear ho hs hl hll
          by_cases hjk : j ≤ K
          · have hjk' : (j : Int) ≤ K := by omega
            go_wp2_with (at_builtin; refine wpList_append_own_at _ rfl _ _ 37 rfl w.heap.size 2 i0 (.int .i64 0) 1 8 Try.underlying37 HF.out.1 HF.out.2.1 HF.out.2.2.1 HF.out.2.2.2 rfl (by decide) _ _ _ rfl (HO.out.later ((Below.refl _ _).alloc (Nat.le_refl _) _)) ⟨wr.heap.size, 0, none⟩ 1 1 [.int .i64 (z)] rfl rfl (cell_one_new _ _ _) (by intro u hu; simp at hu; subst hu; rfl) (le_max (by omega)) (by omega) (by simp; omega) ?_; intro av aw ah ag an aa)
            have hbe : Below w.heap.size w aw := Below.appended hb HO.out hsz ag
            have ho' := Own.appended ah
            clear ah ag an aa
            have HO2 := Lib.hid ho'
            clear ho'
            go_wp2
            go_roundw
            case rel =>
              have h := HO2.out
              have hs := HS.out
              rw [if_pos hjk] at hs
              rw [← hs] at h
              exact ⟨j + 1, by omega, by go_num, hbe, h⟩
            case measure => simp [intOf]; omega
          · have hjk' : (K : Int) < j := by omega
            go_wp2_with (at_builtin; refine wpList_append_own_at _ rfl _ _ 37 rfl w.heap.size 2 i0 (.int .i64 0) 1 8 Try.underlying37 HF.out.1 HF.out.2.1 HF.out.2.2.1 HF.out.2.2.2 rfl (by decide) _ _ _ rfl (HO.out.later ((Below.refl _ _).alloc (Nat.le_refl _) _)) ⟨wr.heap.size, 0, none⟩ 1 1 [.int .i64 (z + l)] rfl rfl (cell_one_new _ _ _) (by intro u hu; simp at hu; subst hu; rfl) (le_max (by omega)) (by omega) (by simp; omega) ?_; intro av aw ah ag an aa)
            have hbe : Below w.heap.size w aw := Below.appended hb HO.out hsz ag
            have ho' := Own.appended ah
            clear ah ag an aa
            have HO2 := Lib.hid ho'
            clear ho'
            go_wp2
            go_roundw
            case rel =>
              have h := HO2.out
              have hs := HS.out
              rw [if_neg hjk] at hs
              rw [← hs] at h
              exact ⟨j + 1, by omega, by go_num, hbe, h⟩
            case measure => simp [intOf]; omega
        · obtain rfl : j = xs.length := by omega
          have HO := Lib.hid ho
          clear ho
          go_wp2
          go_ret2
          refine ⟨_, ret_vi (by rw [HR.out, HG.out]), ?_, hb⟩
          rw [HR.out, HG.out]
          have h := HO.out
          rw [List.take_of_length_le (by rw [mendN_length]; omega)] at h
          exact h
  · generalize hq0 : flowsCode xs = q at *
    have HG : Hid (mendF xs k = ([], q)) := Lib.hid (by unfold mendF; rw [if_neg (by omega), hq0])
    have HC := Lib.hid HC
    have hq : (q != 0) = true := by simp; omega
    clear hI hT h h' hq0
    go_enter Try.func32, Try.ntmps32
    go_wp2_with fail
    refine HC.out.mono ?_
    rintro e w1 ⟨rfl, hb1⟩
    go_wp2
    go_ret2
    exact ⟨_, ret_vi (by rw [HR.out, HG.out]), by rw [HR.out, HG.out]; exact HNil.out _, hb1⟩
theorem fnExactMendJoint_walk {w : World} (A0 : Option Addr) (c0 : Nat) (xs0 : List Int) (I0 : Ints w.heap.size w A0 xs0) (T0 : Fits xs0) (_ : xs0.length ≤ maxLen) (a1 : Int) (b1 : -9223372036854775808 ≤ a1 ∧ a1 ≤ 9223372036854775807) :
    Calls Try.prog 8 #[.slice A0 xs0.length c0, .int .i64 a1] w fun e w' => e = .returned (.bool true) ∧ Below w.heap.size w w' := by
  by_cases hn0 : (xs0.length : Int) ≤ 1048576
  rotate_left
  · go_enter Try.func8, Try.ntmps8
    go_wp2
    go_ret
    exact ⟨rfl, Below.refl _ _⟩
  have hR : (mendF xs0 a1).1.length ≤ 1048576 := mendF_len xs0 a1 hn0 b1
  have be0 := Below.refl w.heap.size w
  have HT0 := Lib.hid T0
  have HI0 := Lib.hid I0
  clear T0 I0
  go_enter Try.func8, Try.ntmps8
  go_wp2_with fail
  refine (toInt64S_any A0 c0 xs0 w.heap.size _ (by omega) (HI0.out.below be0) be0.size).mono ?_
  rintro e w1 ⟨rfl, ho1, hb1⟩
  have sz1 : w.heap.size ≤ w1.heap.size := hb1.size
  have be1 := be0.trans (hb1.mono be0.size)
  have ko1 := Lib.hid ho1
  clear ho1
  have kb1 := Lib.hid hb1
  clear hb1
  go_wp2_with fail
  refine (MendJoint_s _ _ xs0 a1 _ hn0 (ko1.out).ints HT0.out b1).mono ?_
  rintro e w2 ⟨v2, rfl, ho2, hb2⟩
  obtain ⟨A_2, c_2, rfl, -, -⟩ := ho2.slice
  have sz2 : w1.heap.size ≤ w2.heap.size := hb2.size
  have be2 := be1.trans (hb2.mono be1.size)
  have ko2 := Lib.hid ho2
  clear ho2
  have kb2 := Lib.hid hb2
  clear hb2
  go_wp2_with fail
  refine (toInt64S_any A0 c0 xs0 w.heap.size _ (by omega) (HI0.out.below be2) be2.size).mono ?_
  rintro e w3 ⟨rfl, ho3, hb3⟩
  have sz3 : w2.heap.size ≤ w3.heap.size := hb3.size
  have be3 := be2.trans (hb3.mono be2.size)
  have ko3 := Lib.hid ho3
  clear ho3
  have kb3 := Lib.hid hb3
  clear hb3
  go_wp2_with fail
  refine (MendJoint_i _ _ xs0 a1 _ hn0 (ko3.out).ints HT0.out b1).mono ?_
  rintro e w4 ⟨v4, rfl, ho4, hb4⟩
  obtain ⟨A_4, c_4, rfl, -, -⟩ := ho4.slice
  have sz4 : w3.heap.size ≤ w4.heap.size := hb4.size
  have be4 := be3.trans (hb4.mono be3.size)
  have ko4 := Lib.hid ho4
  clear ho4
  have kb4 := Lib.hid hb4
  clear hb4
  go_wp2_with fail
  refine (dB (eqInt64S_yes _ _ _ _ (mendF xs0 a1).1 _ _ _ (by omega) (ko4.out).ints (((ko2.out).later kb3.out).later kb4.out).ints)).mono ?_
  rintro e w5 ⟨rfl, hb5⟩
  have sz5 : w4.heap.size ≤ w5.heap.size := hb5.size
  have be5 := be4.trans (hb5.mono be4.size)
  have kb5 := Lib.hid hb5
  clear hb5
  go_wp2_with fail
  refine (toInt64S_any A0 c0 xs0 w.heap.size _ (by omega) (HI0.out.below be5) be5.size).mono ?_
  rintro e w6 ⟨rfl, ho6, hb6⟩
  have sz6 : w5.heap.size ≤ w6.heap.size := hb6.size
  have be6 := be5.trans (hb6.mono be5.size)
  have ko6 := Lib.hid ho6
  clear ho6
  have kb6 := Lib.hid hb6
  clear hb6
  go_wp2_with fail
  refine (dB (eqInt64S_yes _ _ _ _ xs0 _ _ _ (by omega) ((((ko3.out).later kb4.out).later kb5.out).later kb6.out).ints (ko6.out).ints)).mono ?_
  rintro e w7 ⟨rfl, hb7⟩
  have sz7 : w6.heap.size ≤ w7.heap.size := hb7.size
  have be7 := be6.trans (hb7.mono be6.size)
  have kb7 := Lib.hid hb7
  clear hb7
  go_wp2_with fail
  refine (markInt64S_own _ _ _ xs0 (1) _ _ (by omega) (by omega) (by omega) rfl (((((ko3.out).later kb4.out).later kb5.out).later kb6.out).later kb7.out)).mono ?_
  rintro e w8 ⟨rfl, hp8, hg8⟩
  have sz8 : w7.heap.size ≤ w8.heap.size := hg8.size
  have be8 : Below w.heap.size w w8 := Own.grew be7 (((((ko3.out).later kb4.out).later kb5.out).later kb6.out).later kb7.out) (by omega) be7.size hg8
  have kp8 := Lib.hid hp8
  clear hp8
  have kg8 := Lib.hid hg8
  clear hg8
  go_wp2_with fail
  refine (dB (eqInt64S_yes _ _ _ _ (mendF xs0 a1).1 _ _ _ (by omega) (((((ko4.out).later kb5.out).later kb6.out).later kb7.out).kept kg8.out (ko4.out.apart ko3.out (by omega))).ints (((((((ko2.out).later kb3.out).later kb4.out).later kb5.out).later kb6.out).later kb7.out).kept kg8.out (ko2.out.apart ko3.out (by omega))).ints)).mono ?_
  rintro e w9 ⟨rfl, hb9⟩
  have sz9 : w8.heap.size ≤ w9.heap.size := hb9.size
  have be9 := be8.trans (hb9.mono be8.size)
  have kb9 := Lib.hid hb9
  clear hb9
  go_wp2_with fail
  refine (markInt64S_own _ _ _ (mendF xs0 a1).1 1 _ _ (by omega) (by omega) (by omega) rfl ((((((ko4.out).later kb5.out).later kb6.out).later kb7.out).kept kg8.out (ko4.out.apart ko3.out (by omega))).later kb9.out)).mono ?_
  rintro e w10 ⟨rfl, hp10, hg10⟩
  have sz10 : w9.heap.size ≤ w10.heap.size := hg10.size
  have be10 : Below w.heap.size w w10 := Own.grew be9 ((((((ko4.out).later kb5.out).later kb6.out).later kb7.out).kept kg8.out (ko4.out.apart ko3.out (by omega))).later kb9.out) (by omega) be9.size hg10
  have kp10 := Lib.hid hp10
  clear hp10
  have kg10 := Lib.hid hg10
  clear hg10
  go_wp2_with fail
  refine (sB (heldInt64S_any _ _ (mendF xs0 a1).1.length 1 _ _ (by omega) (by omega) (by omega) (kp10.out).ints)).mono ?_
  rintro e w11 ⟨rfl, hb11⟩
  have sz11 : w10.heap.size ≤ w11.heap.size := hb11.size
  have be11 := be10.trans (hb11.mono be10.size)
  have kb11 := Lib.hid hb11
  clear hb11
  go_wp2_with fail
  refine (toInt64S_any A0 c0 xs0 w.heap.size _ (by omega) (HI0.out.below be11) be11.size).mono ?_
  rintro e w12 ⟨rfl, ho12, hb12⟩
  have sz12 : w11.heap.size ≤ w12.heap.size := hb12.size
  have be12 := be11.trans (hb12.mono be11.size)
  have ko12 := Lib.hid ho12
  clear ho12
  have kb12 := Lib.hid hb12
  clear hb12
  go_wp2_with fail
  refine (MendJoint_i _ _ xs0 a1 _ hn0 (ko12.out).ints HT0.out b1).mono ?_
  rintro e w13 ⟨v13, rfl, ho13, hb13⟩
  obtain ⟨A_13, c_13, rfl, -, -⟩ := ho13.slice
  have sz13 : w12.heap.size ≤ w13.heap.size := hb13.size
  have be13 := be12.trans (hb13.mono be12.size)
  have ko13 := Lib.hid ho13
  clear ho13
  have kb13 := Lib.hid hb13
  clear hb13
  go_wp2_with fail
  refine (dB (eqInt64S_yes _ _ _ _ (mendF xs0 a1).1 _ _ _ (by omega) (ko13.out).ints ((((((((((((ko2.out).later kb3.out).later kb4.out).later kb5.out).later kb6.out).later kb7.out).kept kg8.out (ko2.out.apart ko3.out (by omega))).later kb9.out).kept kg10.out (ko2.out.apart ko4.out (by omega))).later kb11.out).later kb12.out).later kb13.out).ints)).mono ?_
  rintro e w14 ⟨rfl, hb14⟩
  have sz14 : w13.heap.size ≤ w14.heap.size := hb14.size
  have be14 := be13.trans (hb14.mono be13.size)
  have kb14 := Lib.hid hb14
  clear hb14
  go_wp2_with fail
  refine (sB (heldInt64S_any _ _ (mendF xs0 a1).1.length 1 _ _ (by omega) (by omega) (by omega) (((((kp10.out).later kb11.out).later kb12.out).later kb13.out).later kb14.out).ints)).mono ?_
  rintro e w15 ⟨rfl, hb15⟩
  have sz15 : w14.heap.size ≤ w15.heap.size := hb15.size
  have be15 := be14.trans (hb15.mono be14.size)
  have kb15 := Lib.hid hb15
  clear hb15
  go_wp2_with fail
  go_ret
  exact ⟨rfl, be15⟩
end Go.Proofs.Ytmfbdngibbkciaa
