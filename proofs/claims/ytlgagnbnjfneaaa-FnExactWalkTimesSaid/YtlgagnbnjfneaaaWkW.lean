/- The law of the times of walks: the program's function on a mine, and the law's walk. Conditions: the facts on memory and on lengths that each theorem names. -/
import Derived.Test.YtlgagnbnjfneaaaWkI
import Derived.Deep.DeepCutAuto
namespace Go.Proofs.Ytlgagnbnjfneaaa
open Go.RowKit
open Pl
theorem oth4 {w : World} {e b i : Nat} {u v0 v1 v2 v3 : Value} (hne : e ≠ b) (h : w.cell? ⟨b, i, none⟩ = some u) : ((((w.setCell ⟨e, 0, none⟩ v0).setCell ⟨e, 1, none⟩ v1).setCell ⟨e, 2, none⟩ v2).setCell ⟨e, 3, none⟩ v3).cell? ⟨b, i, none⟩ = some u := by
  have n : ∀ j, (⟨b, i, none⟩ : Addr) ≠ ⟨e, j, none⟩ := fun j h => hne (by injection h with h1; exact h1.symm)
  have n' : ∀ j, (⟨e, j, none⟩ : Addr) ≠ ⟨b, i, none⟩ := fun j h => n j h.symm
  rw [World.cell?_setCell_other _ _ _ _ (by first | exact n _ | exact n' _), World.cell?_setCell_other _ _ _ _ (by first | exact n _ | exact n' _), World.cell?_setCell_other _ _ _ _ (by first | exact n _ | exact n' _), World.cell?_setCell_other _ _ _ _ (by first | exact n _ | exact n' _)]
  exact h
set_option maxRecDepth 100000 in
set_option maxHeartbeats 3200000 in
theorem walkTimes_any (N : Nat) (A : Option Addr) (cp : Nat) (xs : List Aw) (a : Nat) (v : Int) (w : World) (hI : Recs encA 7 w.heap.size w A xs) (hm : mineB (N : Int) xs = true) (ha : a < N) (hv1 : 10 ≤ v) (hv2 : v ≤ 300) :
    Calls Try.prog 55 #[.agg #[.int .i64 (N : Int), .slice A xs.length cp], .int .i64 (a : Int), .int .i64 v] w fun e w' => ∃ u, e = .returned u ∧ Own w.heap.size w' u (walkL N xs a v) ∧ Below w.heap.size w w' := by
  obtain ⟨⟨n1, n2⟩, _, _⟩ := mineB_bd hm
  have hN1 : 1 ≤ N := by omega
  have hN2 : N ≤ 16 := by omega
  have be0 : Below w.heap.size w (w.alloc (.cells #[.int .i64 (N : Int), .slice A xs.length cp] 31)) := by go_grown
  have m0 : (w.alloc (.cells #[.int .i64 (N : Int), .slice A xs.length cp] 31)).cell? ⟨w.heap.size, 0, none⟩ = some (.int .i64 (N : Int)) := by go_simp
  have m1 : (w.alloc (.cells #[.int .i64 (N : Int), .slice A xs.length cp] 31)).cell? ⟨w.heap.size, 1, none⟩ = some (.slice A xs.length cp) := by go_simp
  have HT := Lib.hid (fun (AR : Option Addr) (ca : Nat) (W : World) (hb : Below w.heap.size w W) (hR : Ints W.heap.size W AR (List.replicate N (-1))) => times_any N A cp xs AR ca a v W ((hI.below hb).more hb.size) hm ha hv1 hv2 hR)
  clear hI hm n1 n2
  go_enter Try.func55, Try.ntmps55
  go_upto_region 1 with fail
  generalize w.alloc (.cells #[.int .i64 (N : Int), .slice A xs.length cp] 31) = w0 at *
  have sz0 : w.heap.size < w0.heap.size := World.block_lt_of_cell? _ _ m0
  have sn0 : ¬ w.heap.size = w0.heap.size := by omega
  have sn1 : ¬ w.heap.size = w0.heap.size + 1 := by omega
  have sn2 : ¬ w0.heap.size = w.heap.size := by omega
  have sn3 : ¬ w0.heap.size + 1 = w.heap.size := by omega
  go_cut [7] (fun s7 wx => ∃ (e : Nat) (AV : Option Addr) (cv : Nat), s7 = .pointer (some ⟨e, 0, none⟩) ∧ wx.cell? ⟨e, 0, none⟩ = some (.int .i64 (N : Int)) ∧ wx.cell? ⟨e, 1, none⟩ = some (.slice A xs.length cp) ∧ wx.cell? ⟨e, 2, none⟩ = some (.slice AV N cv) ∧ wx.cell? ⟨e, 3, none⟩ = some (.int .i64 (-1)) ∧ Ints wx.heap.size wx AV (List.replicate N (-1)) ∧ Below w.heap.size w wx)
  case first =>
    go_region_held3 (fun w' => w'.cell? ⟨w.heap.size, 0, none⟩ = some (.int .i64 (N : Int)) ∧ w'.cell? ⟨w.heap.size, 1, none⟩ = some (.slice A xs.length cp))
      (first
        | go_keep
        | exact ⟨cell_later hb2 (by go_simp), cell_later hb2 (by go_simp)⟩
        | exact ⟨Lib.cell?_alloc_some _ (cell_later hb2 (by go_simp)), Lib.cell?_alloc_some _ (cell_later hb2 (by go_simp))⟩
        | exact ⟨oth4 (by omega) (cell_later hb2 (by go_simp)), oth4 (by omega) (cell_later hb2 (by go_simp))⟩)
      (first
        | (go_at_call 99; refine (Repeat_any N (-1) _ _ hN1 hN2 ?_).mono ?_; (go_simp); rintro e w2 ⟨u, rfl, ho, hb2⟩; obtain ⟨AV, cv, hv, -, -⟩ := ho.slice; rw [List.length_replicate] at hv; subst hv; obtain ⟨hc2, hf2⟩ := bcell hb2))
    · go_wp2_with fail
      go_meet
      case rel =>
        have q2 : Below w0.heap.size w0 w2 := Below.trans (by go_grown) (hb2.mono (by simp <;> omega))
        have bw := be0.trans (q2.mono be0.size)
        have h5 := (Own.later ho ((Below.refl w2.heap.size w2).alloc (Nat.le_refl _) (.cells #[.int .i64 (N : Int), .slice A xs.length cp, .slice AV N cv, .int .i64 (-1)] 127))).ints
        exact ⟨w2.heap.size, AV, cv, rfl, by go_simp, by go_simp, by go_simp, by go_simp, h5, bw.alloc bw.size _⟩
    · go_wp2_with fail
      go_meet
      case rel =>
        have q2 : Below w0.heap.size w0 w2 := Below.trans (by go_grown) (hb2.mono (by simp <;> omega))
        have bw := be0.trans (q2.mono be0.size)
        have z0 : w2.cell? ⟨w0.heap.size + 1, 0, none⟩ = some (.int .i64 (0 : Int)) := by rw [hc2 _ _ (by simp <;> omega)]; go_simp
        have z1 : w2.cell? ⟨w0.heap.size + 1, 1, none⟩ = some (.slice none 0 0) := by rw [hc2 _ _ (by simp <;> omega)]; go_simp
        have z2 : w2.cell? ⟨w0.heap.size + 1, 2, none⟩ = some (.slice none 0 0) := by rw [hc2 _ _ (by simp <;> omega)]; go_simp
        have z3 : w2.cell? ⟨w0.heap.size + 1, 3, none⟩ = some (.int .i64 (0 : Int)) := by rw [hc2 _ _ (by simp <;> omega)]; go_simp
        obtain ⟨r0, r1, r2, r3⟩ := set4 (.int .i64 (N : Int)) (.slice A xs.length cp) (.slice AV N cv) (.int .i64 (-1)) z0 z1 z2 z3
        have h0 := ho
        unfold Own at h0
        have h1 := ownsRow_setCell_below h0 (a := ⟨w0.heap.size + 1, 0, none⟩) (by simp <;> omega) (.int .i64 (N : Int))
        have h2 := ownsRow_setCell_below h1 (a := ⟨w0.heap.size + 1, 1, none⟩) (by simp <;> omega) (.slice A xs.length cp)
        have h3 := ownsRow_setCell_below h2 (a := ⟨w0.heap.size + 1, 2, none⟩) (by simp <;> omega) (.slice AV N cv)
        have h4 := ownsRow_setCell_below h3 (a := ⟨w0.heap.size + 1, 3, none⟩) (by simp <;> omega) (.int .i64 (-1))
        have h5 := Own.ints (xs := List.replicate N (-1)) h4
        exact ⟨w0.heap.size + 1, AV, cv, rfl, r0, r1, r2, r3, h5, (((bw.setCell (by simp <;> omega) _).setCell (by simp <;> omega) _).setCell (by simp <;> omega) _).setCell (by simp <;> omega) _⟩
    · go_wp2_with fail
      go_meet
      case rel =>
        have q2 : Below w0.heap.size w0 w2 := Below.trans (by go_grown) (hb2.mono (by simp <;> omega))
        have bw := be0.trans (q2.mono be0.size)
        have z0 : w2.cell? ⟨w0.heap.size, 0, none⟩ = some (.int .i64 (0 : Int)) := by rw [hc2 _ _ (by simp <;> omega)]; go_simp
        have z1 : w2.cell? ⟨w0.heap.size, 1, none⟩ = some (.slice none 0 0) := by rw [hc2 _ _ (by simp <;> omega)]; go_simp
        have z2 : w2.cell? ⟨w0.heap.size, 2, none⟩ = some (.slice none 0 0) := by rw [hc2 _ _ (by simp <;> omega)]; go_simp
        have z3 : w2.cell? ⟨w0.heap.size, 3, none⟩ = some (.int .i64 (0 : Int)) := by rw [hc2 _ _ (by simp <;> omega)]; go_simp
        obtain ⟨r0, r1, r2, r3⟩ := set4 (.int .i64 (N : Int)) (.slice A xs.length cp) (.slice AV N cv) (.int .i64 (-1)) z0 z1 z2 z3
        have h0 := ho
        unfold Own at h0
        have h1 := ownsRow_setCell_below h0 (a := ⟨w0.heap.size, 0, none⟩) (by simp <;> omega) (.int .i64 (N : Int))
        have h2 := ownsRow_setCell_below h1 (a := ⟨w0.heap.size, 1, none⟩) (by simp <;> omega) (.slice A xs.length cp)
        have h3 := ownsRow_setCell_below h2 (a := ⟨w0.heap.size, 2, none⟩) (by simp <;> omega) (.slice AV N cv)
        have h4 := ownsRow_setCell_below h3 (a := ⟨w0.heap.size, 3, none⟩) (by simp <;> omega) (.int .i64 (-1))
        have h5 := Own.ints (xs := List.replicate N (-1)) h4
        exact ⟨w0.heap.size, AV, cv, rfl, r0, r1, r2, r3, h5, (((bw.setCell (by simp <;> omega) _).setCell (by simp <;> omega) _).setCell (by simp <;> omega) _).setCell (by simp <;> omega) _⟩
  case rest =>
    obtain ⟨e, AV, cv, rfl, e0, e1, e2, e3, hI, hb⟩ := hcut
    have HI := Lib.hid (HT.out AV cv _ hb hI)
    clear hI
    go_wp2_with fail
    refine HI.out.mono ?_
    rintro e w3 ⟨u, rfl, ho, hb3⟩
    have HO := Lib.hid ho
    clear ho
    go_wp2_with fail
    go_ret
    exact ⟨_, rfl, HO.out.base (fun g h => by have := (World.ownsRow.lt HO.out g h).1; have := hb.size; omega), hb.trans (hb3.mono hb.size)⟩
set_option maxRecDepth 100000 in
set_option maxHeartbeats 1600000 in
theorem WalkTimes_i (J : Int) (A : Option Addr) (cp : Nat) (xs : List Aw) (a v : Int) (w : World) (hx : (xs.length : Int) ≤ 1048576) (hF : FitsA xs) (hI : Recs encA 7 w.heap.size w A xs) (_ : -9223372036854775808 ≤ a ∧ a ≤ 9223372036854775807) (_ : -9223372036854775808 ≤ v ∧ v ≤ 9223372036854775807) :
    Calls Try.prog 21 #[.agg #[.int .i64 J, .slice A xs.length cp], .int .i64 a, .int .i64 v] w fun e w' => ∃ u, e = .returned (.tuple #[u, .int .i64 (wtF J xs a v).2]) ∧ Own w.heap.size w' u (wtF J xs a v).1 ∧ Below w.heap.size w w' := by
  obtain ⟨R, hR⟩ : ∃ R, R = wtF J xs a v := ⟨_, rfl⟩
  rw [← hR]
  have HR := Lib.hid hR
  clear hR
  have be0 : Below w.heap.size w (w.alloc (.cells #[.int .i64 J, .slice A xs.length cp] 31)) := by go_grown
  have m0_0 : (w.alloc (.cells #[.int .i64 J, .slice A xs.length cp] 31)).cell? ⟨w.heap.size, 0, none⟩ = some (.int .i64 J) := by go_simp
  have m1_0 : (w.alloc (.cells #[.int .i64 J, .slice A xs.length cp] 31)).cell? ⟨w.heap.size, 1, none⟩ = some (.slice A xs.length cp) := by go_simp
  have HV := Lib.hid (fun (W : World) (hb : Below w.heap.size w W) => ValidMine_i J A cp xs w.heap.size W (by omega) hF (hI.below hb) hb.size)
  have J0 := Lib.hid hI
  clear hI hF
  cases hm : mineB J xs
  · have HG := Lib.hid (wtF_one (a := a) (v := v) hm)
    rw [hm] at HV
    clear hm
    go_enter Try.func21, Try.ntmps21
    go_wp2_with fail
    generalize w.alloc (.cells #[.int .i64 J, .slice A xs.length cp] 31) = w0 at *
    refine (HV.out _ be0).mono ?_
    rintro e w1 ⟨rfl, hb1⟩
    have sz1 : w0.heap.size ≤ w1.heap.size := hb1.size
    have be1 := be0.trans (hb1.mono be0.size)
    have m0_1 := cell_later hb1 m0_0
    have m1_1 := cell_later hb1 m1_0
    clear m0_0 m1_0
    go_wp2_with fail
    go_ret2
    exact ⟨_, ret_vi (by rw [HR.out, HG.out]), by rw [HR.out, HG.out]; exact Own.nil_ _ _, be1⟩
  rw [hm] at HV
  obtain ⟨⟨j1, j2⟩, _, _⟩ := mineB_bd hm
  have HMB := Lib.hid hm
  have HJ := Lib.hid (fun W => hasJunction_any J A cp xs.length a W j1 j2)
  cases h1 : inB a 0 (J - 1)
  · have HG := Lib.hid (wtF_two (a := a) (v := v) hm (by rw [h1]; rfl))
    rw [h1] at HJ
    clear hm h1
    go_enter Try.func21, Try.ntmps21
    go_wp2_with fail
    generalize w.alloc (.cells #[.int .i64 J, .slice A xs.length cp] 31) = w0 at *
    refine (HV.out _ be0).mono ?_
    rintro e w1 ⟨rfl, hb1⟩
    have sz1 : w0.heap.size ≤ w1.heap.size := hb1.size
    have be1 := be0.trans (hb1.mono be0.size)
    have m0_1 := cell_later hb1 m0_0
    have m1_1 := cell_later hb1 m1_0
    clear m0_0 m1_0
    go_wp2_with fail
    refine (HJ.out _).mono ?_
    rintro e w2 ⟨rfl, hb2⟩
    have sz2 : w1.heap.size ≤ w2.heap.size := hb2.size
    have be2 := be1.trans (hb2.mono be1.size)
    have m0_2 := cell_later hb2 m0_1
    have m1_2 := cell_later hb2 m1_1
    clear m0_1 m1_1
    go_wp2_with fail
    go_ret2
    exact ⟨_, ret_vi (by rw [HR.out, HG.out]), by rw [HR.out, HG.out]; exact Own.nil_ _ _, be2⟩
  cases h2 : inB v 10 300
  · have HG := Lib.hid (wtF_two (a := a) (v := v) hm (by rw [h1, h2]; rfl))
    have HS := Lib.hid (fun (W : World) => eqb (within_any v 10 300 W) h2)
    rw [h1] at HJ
    clear hm h1 h2
    go_enter Try.func21, Try.ntmps21
    go_wp2_with fail
    generalize w.alloc (.cells #[.int .i64 J, .slice A xs.length cp] 31) = w0 at *
    refine (HV.out _ be0).mono ?_
    rintro e w1 ⟨rfl, hb1⟩
    have sz1 : w0.heap.size ≤ w1.heap.size := hb1.size
    have be1 := be0.trans (hb1.mono be0.size)
    have m0_1 := cell_later hb1 m0_0
    have m1_1 := cell_later hb1 m1_0
    clear m0_0 m1_0
    go_wp2_with (go_at_call 54; refine (HS.out _).mono ?_; rintro e w' ⟨rfl, rfl⟩)
    refine (HJ.out _).mono ?_
    rintro e w2 ⟨rfl, hb2⟩
    have sz2 : w1.heap.size ≤ w2.heap.size := hb2.size
    have be2 := be1.trans (hb2.mono be1.size)
    have m0_2 := cell_later hb2 m0_1
    have m1_2 := cell_later hb2 m1_1
    clear m0_1 m1_1
    go_wp2_with (go_at_call 54; refine (HS.out _).mono ?_; rintro e w' ⟨rfl, rfl⟩)
    go_ret2
    exact ⟨_, ret_vi (by rw [HR.out, HG.out]), by rw [HR.out, HG.out]; exact Own.nil_ _ _, be2⟩
  have HS := Lib.hid (fun (W : World) => eqb (within_any v 10 300 W) h2)
  rw [h1] at HJ
  obtain ⟨a1, a2⟩ := inB_iff.1 h1
  obtain ⟨v1, v2⟩ := inB_iff.1 h2
  obtain ⟨N, rfl⟩ := mineB_nat hm
  obtain ⟨k, rfl⟩ := Int.eq_ofNat_of_zero_le a1
  have HG := Lib.hid (wtF_yes hm h1 h2)
  rw [Int.toNat_natCast, Int.toNat_natCast] at HG
  have HW := Lib.hid (fun W (hb : Below w.heap.size w W) => walkTimes_any N A cp xs k v W ((J0.out.below hb).more hb.size) HMB.out (by omega) v1 v2)
  clear hm h1 h2
  go_enter Try.func21, Try.ntmps21
  go_wp2_with fail
  generalize w.alloc (.cells #[.int .i64 (N : Int), .slice A xs.length cp] 31) = w0 at *
  refine (HV.out _ be0).mono ?_
  rintro e w1 ⟨rfl, hb1⟩
  have sz1 : w0.heap.size ≤ w1.heap.size := hb1.size
  have be1 := be0.trans (hb1.mono be0.size)
  have m0_1 := cell_later hb1 m0_0
  have m1_1 := cell_later hb1 m1_0
  clear m0_0 m1_0
  go_wp2_with (go_at_call 54; refine (HS.out _).mono ?_; rintro e w' ⟨rfl, rfl⟩)
  refine (HJ.out _).mono ?_
  rintro e w2 ⟨rfl, hb2⟩
  have sz2 : w1.heap.size ≤ w2.heap.size := hb2.size
  have be2 := be1.trans (hb2.mono be1.size)
  have m0_2 := cell_later hb2 m0_1
  have m1_2 := cell_later hb2 m1_1
  clear m0_1 m1_1
  go_wp2_with (go_at_call 54; refine (HS.out _).mono ?_; rintro e w' ⟨rfl, rfl⟩)
  refine (HW.out _ be2).mono ?_
  rintro e w3 ⟨u, rfl, ho, hb3⟩
  have sz3 : w2.heap.size ≤ w3.heap.size := hb3.size
  have be3 := be2.trans (hb3.mono be2.size)
  have m0_3 := cell_later hb3 m0_2
  have m1_3 := cell_later hb3 m1_2
  have HO := Lib.hid ho
  clear ho
  clear m0_2 m1_2
  go_wp2_with (go_at_call 54; refine (HS.out _).mono ?_; rintro e w' ⟨rfl, rfl⟩)
  go_ret2
  refine ⟨_, ret_vi (by rw [HR.out, HG.out]), ?_, be3⟩
  rw [HR.out, HG.out]
  exact HO.out.base (fun g h => by have := (World.ownsRow.lt HO.out g h).1; have := be2.size; omega)
set_option maxRecDepth 100000 in
set_option maxHeartbeats 3200000 in
theorem fnExactWalkTimes_walk {w : World} (J : Int) (A0 : Option Addr) (c0 : Nat) (xs0 : List Aw) (I0 : Recs encA 7 w.heap.size w A0 xs0) (F0 : FitsA xs0) (l0 : xs0.length ≤ maxLen) (a1 : Int) (b1 : -9223372036854775808 ≤ a1 ∧ a1 ≤ 9223372036854775807) (a2 : Int) (b2 : -9223372036854775808 ≤ a2 ∧ a2 ≤ 9223372036854775807) :
    Calls Try.prog 4 #[.agg #[.int .i64 J, .slice A0 xs0.length c0], .int .i64 a1, .int .i64 a2] w fun e w' => e = .returned (.bool true) ∧ Below w.heap.size w w' := by
  have hb0 : Below w.heap.size w (w.alloc (.cells #[.int .i64 J, .slice A0 xs0.length c0] 24)) := by go_grown
  have HI0 := Lib.hid I0
  have HF0 := Lib.hid F0
  have HS := Lib.hid (fun (W : World) (hb : Below w.heap.size w W) => szMine_any J A0 c0 xs0 1048576 w.heap.size W (by omega) (by omega) l0 F0 (I0.below hb) hb.size)
  clear I0 F0 
  have hR : (wtF J xs0 a1 a2).1.length ≤ 1048576 := wtF_len J xs0 a1 a2
  have hor : szA xs0 1048576 < 0 ∨ (0 ≤ szA xs0 1048576 ∧ (xs0.length : Int) ≤ 1048576) := szA_or xs0
  generalize szA xs0 1048576 = q at *
  rcases hor with hq | ⟨hq, hn0⟩
  · go_enter Try.func4, Try.ntmps4
    go_wp2_with fail
    refine (HS.out _ hb0).mono ?_
    rintro e w1 ⟨rfl, hb1⟩
    go_wp2_with fail
    go_ret
    exact ⟨rfl, hb0.trans (hb1.mono hb0.size)⟩
  go_enter Try.func4, Try.ntmps4
  go_wp2_with fail
  refine (HS.out _ hb0).mono ?_
  rintro e w1 ⟨rfl, hb1⟩
  have mA1 : w1.cell? ⟨w.heap.size, 0, none⟩ = some (.int .i64 J) := by rw [(bcell hb1).1 _ _ (by simp)]; go_simp
  have mB1 : w1.cell? ⟨w.heap.size, 1, none⟩ = some (.slice A0 xs0.length c0) := by rw [(bcell hb1).1 _ _ (by simp)]; go_simp
  have be1 := hb0.trans (hb1.mono hb0.size)
  have sz1 : w.heap.size < w1.heap.size := by have := hb1.size; simp at this; omega
  clear hb1
  go_wp2_with fail
  refine (toMine_any J A0 c0 xs0 w.heap.size _ (by omega) (HI0.out.below be1) be1.size).mono ?_
  rintro e w2 ⟨v2, rfl, ho2, hb2⟩
  have sz2 : w1.heap.size ≤ w2.heap.size := hb2.size
  have be2 := be1.trans (hb2.mono be1.size)
  have mA2 := ((bcell hb2).1 _ _ (by omega)).trans mA1
  have mB2 := ((bcell hb2).1 _ _ (by omega)).trans mB1
  clear mA1 mB1
  obtain ⟨A_2, c_2, rfl, -, -⟩ := ho2.slice encA_len
  go_wp2_with fail
  refine (WalkTimes_s J _ _ xs0 a1 a2 _ (by omega) HF0.out (ho2.rows encA_len) b1 b2).mono ?_
  rintro e w3 ⟨v3, rfl, ho3, hb3⟩
  have sz3 : w2.heap.size ≤ w3.heap.size := hb3.size
  have be3 := be2.trans (hb3.mono be2.size)
  have mA3 := ((bcell hb3).1 _ _ (by omega)).trans mA2
  have mB3 := ((bcell hb3).1 _ _ (by omega)).trans mB2
  clear mA2 mB2
  obtain ⟨A_3, c_3, rfl, -, -⟩ := ho3.slice
  go_wp2_with fail
  refine (toMine_any J A0 c0 xs0 w.heap.size _ (by omega) (HI0.out.below be3) be3.size).mono ?_
  rintro e w4 ⟨v4, rfl, ho4, hb4⟩
  have sz4 : w3.heap.size ≤ w4.heap.size := hb4.size
  have be4 := be3.trans (hb4.mono be3.size)
  have mA4 := ((bcell hb4).1 _ _ (by omega)).trans mA3
  have mB4 := ((bcell hb4).1 _ _ (by omega)).trans mB3
  clear mA3 mB3
  obtain ⟨A_4, c_4, rfl, -, -⟩ := ho4.slice encA_len
  go_wp2_with fail
  have hb5 : Below w4.heap.size w4 (w4.alloc (.cells #[.int .i64 J, .slice A_4 xs0.length c_4] 31)) := (Below.refl _ _).alloc (Nat.le_refl _) _
  have nA5 : (w4.alloc (.cells #[.int .i64 J, .slice A_4 xs0.length c_4] 31)).cell? ⟨w4.heap.size, 0, none⟩ = some (.int .i64 J) := by go_simp
  have nB5 : (w4.alloc (.cells #[.int .i64 J, .slice A_4 xs0.length c_4] 31)).cell? ⟨w4.heap.size, 1, none⟩ = some (.slice A_4 xs0.length c_4) := by go_simp
  have lt5 : w4.heap.size < (w4.alloc (.cells #[.int .i64 J, .slice A_4 xs0.length c_4] 31)).heap.size := by simp
  generalize (w4.alloc (.cells #[.int .i64 J, .slice A_4 xs0.length c_4] 31)) = w5 at *
  have sz5 : w4.heap.size ≤ w5.heap.size := hb5.size
  have be5 := be4.trans (hb5.mono be4.size)
  have mA5 := ((bcell hb5).1 _ _ (by omega)).trans mA4
  have mB5 := ((bcell hb5).1 _ _ (by omega)).trans mB4
  clear mA4 mB4
  refine (WalkTimes_i J _ _ xs0 a1 a2 _ (by omega) HF0.out ((ho4.later hb5).rows encA_len) b1 b2).mono ?_
  rintro e w6 ⟨v6, rfl, ho6, hb6⟩
  have sz6 : w5.heap.size ≤ w6.heap.size := hb6.size
  have be6 := be5.trans (hb6.mono be5.size)
  have mA6 := ((bcell hb6).1 _ _ (by omega)).trans mA5
  have mB6 := ((bcell hb6).1 _ _ (by omega)).trans mB5
  have nA6 := ((bcell hb6).1 _ _ (by omega)).trans nA5
  have nB6 := ((bcell hb6).1 _ _ (by omega)).trans nB5
  clear mA5 mB5 nA5 nB5
  obtain ⟨A_6, c_6, rfl, -, -⟩ := ho6.slice
  go_wp2_with fail
  refine (dB (eqInt64S_yes _ _ _ _ (wtF J xs0 a1 a2).1 _ _ _ (by omega) ho6.ints (((ho3.later hb4).later hb5).later hb6).ints)).mono ?_
  rintro e w7 ⟨rfl, hb7⟩
  have sz7 : w6.heap.size ≤ w7.heap.size := hb7.size
  have be7 := be6.trans (hb7.mono be6.size)
  have mA7 := ((bcell hb7).1 _ _ (by omega)).trans mA6
  have mB7 := ((bcell hb7).1 _ _ (by omega)).trans mB6
  have nA7 := ((bcell hb7).1 _ _ (by omega)).trans nA6
  have nB7 := ((bcell hb7).1 _ _ (by omega)).trans nB6
  clear mA6 mB6 nA6 nB6
  go_wp2_with fail
  have hox := (((ho4.later hb5).later hb6).later hb7)
  have HX := Lib.hid hox
  clear hox
  have HBX := Lib.hid be7
  go_region_held3 (fun w' => (w'.cell? ⟨w.heap.size, 0, none⟩ = some (.int .i64 J) ∧ w'.cell? ⟨w.heap.size, 1, none⟩ = some (.slice A0 xs0.length c0)) ∧ (w'.cell? ⟨w4.heap.size, 0, none⟩ = some (.int .i64 J) ∧ w'.cell? ⟨w4.heap.size, 1, none⟩ = some (.slice A_4 xs0.length c_4)))
    (first
      | go_keep
      | exact ⟨⟨((bcell hb9).1 _ _ (by have := hb8.size; simp at this; omega)).trans (((bcell hb8).1 _ _ (by simp <;> omega)).trans mA7), ((bcell hb9).1 _ _ (by have := hb8.size; simp at this; omega)).trans (((bcell hb8).1 _ _ (by simp <;> omega)).trans mB7)⟩, ((bcell hb9).1 _ _ (by have := hb8.size; simp at this; omega)).trans (((bcell hb8).1 _ _ (by simp <;> omega)).trans nA7), ((bcell hb9).1 _ _ (by have := hb8.size; simp at this; omega)).trans (((bcell hb8).1 _ _ (by simp <;> omega)).trans nB7)⟩
      | exact ⟨⟨((bcell hb8).1 _ _ (by simp <;> omega)).trans mA7, ((bcell hb8).1 _ _ (by simp <;> omega)).trans mB7⟩, ((bcell hb8).1 _ _ (by simp <;> omega)).trans nA7, ((bcell hb8).1 _ _ (by simp <;> omega)).trans nB7⟩)
    (first
      | (go_at_call 12; refine (toMine_any J A0 c0 xs0 w.heap.size _ (by omega) (by first | exact HI0.out.below HBX.out | exact HI0.out.below HBX.out.drew) (by first | exact HBX.out.size | exact HBX.out.drew.size)).mono ?_; rintro e w8 ⟨v8, rfl, ho8, hb8⟩; obtain ⟨A_8, c_8, rfl, -, -⟩ := ho8.slice encA_len)
      | (go_at_call 16; refine (eqMine_yes J _ _ _ _ xs0 _ _ _ (by omega) (by first | exact (HX.out.later hb8).rows encA_len | exact ((HX.out.later (Below.refl _ _).drew).later hb8).rows encA_len) (ho8.rows encA_len) (Nat.le_refl _) (Nat.le_refl _)).mono ?_; rintro e w9 ⟨rfl, hb9⟩))
  have hcx : Below w7.heap.size w7 w8 := ((Below.refl w7.heap.size w7).drew).trans (hb8.mono (by simp))
  clear hb8
  have hb8 := hcx
  clear hcx
  have sz8 : w7.heap.size ≤ w8.heap.size := hb8.size
  have be8 := be7.trans (hb8.mono be7.size)
  have mA8 := ((bcell hb8).1 _ _ (by omega)).trans mA7
  have mB8 := ((bcell hb8).1 _ _ (by omega)).trans mB7
  have nA8 := ((bcell hb8).1 _ _ (by omega)).trans nA7
  have nB8 := ((bcell hb8).1 _ _ (by omega)).trans nB7
  clear mA7 mB7 nA7 nB7
  have sz9 : w8.heap.size ≤ w9.heap.size := hb9.size
  have be9 := be8.trans (hb9.mono be8.size)
  have mA9 := ((bcell hb9).1 _ _ (by omega)).trans mA8
  have mB9 := ((bcell hb9).1 _ _ (by omega)).trans mB8
  have nA9 := ((bcell hb9).1 _ _ (by omega)).trans nA8
  have nB9 := ((bcell hb9).1 _ _ (by omega)).trans nB8
  clear mA8 mB8 nA8 nB8
  go_wp2_with fail
  refine (markMine_own J _ xs0 1 _ _ (by omega) (by omega) (by omega) (((((ho4.later hb5).later hb6).later hb7).later hb8).later hb9)).mono ?_
  rintro e w10 ⟨rfl, _, hg10⟩
  have sz10 : w9.heap.size ≤ w10.heap.size := hg10.size
  have be10 : Below w.heap.size w w10 := be9.grown hg10 be9.size (fun g h => by have := (World.ownsRow.lt ho4 g h).1; omega)
  have mA10 := hg10.cell mA9 (fun e => by have := (World.ownsRow.lt ho4 _ e.symm).1; simp at this; omega)
  have mB10 := hg10.cell mB9 (fun e => by have := (World.ownsRow.lt ho4 _ e.symm).1; simp at this; omega)
  clear mA9 mB9
  go_wp2_with fail
  refine (dB (eqInt64S_yes _ _ _ _ (wtF J xs0 a1 a2).1 _ _ _ (by omega) ((((ho6.later hb7).later hb8).later hb9).kept hg10 (apart_rows ho6 ho4 (by omega))).ints (((((((ho3.later hb4).later hb5).later hb6).later hb7).later hb8).later hb9).kept hg10 (apart_rows ho3 ho4 (by omega))).ints)).mono ?_
  rintro e w11 ⟨rfl, hb11⟩
  have sz11 : w10.heap.size ≤ w11.heap.size := hb11.size
  have be11 := be10.trans (hb11.mono be10.size)
  have mA11 := ((bcell hb11).1 _ _ (by omega)).trans mA10
  have mB11 := ((bcell hb11).1 _ _ (by omega)).trans mB10
  clear mA10 mB10
  go_wp2_with fail
  refine (markInt64S_own _ _ _ (wtF J xs0 a1 a2).1 1 _ _ (by omega) (by omega) (by omega) rfl (((((ho6.later hb7).later hb8).later hb9).kept hg10 (apart_rows ho6 ho4 (by omega))).later hb11)).mono ?_
  rintro e w12 ⟨rfl, hp12, hg12⟩
  have sz12 : w11.heap.size ≤ w12.heap.size := hg12.size
  have be12 : Below w.heap.size w w12 := be11.grown hg12 be11.size (fun g h => by have := (World.ownsRow.lt ho6 g h).1; omega)
  have mA12 := hg12.cell mA11 (fun e => by have := (World.ownsRow.lt ho6 _ e.symm).1; simp at this; omega)
  have mB12 := hg12.cell mB11 (fun e => by have := (World.ownsRow.lt ho6 _ e.symm).1; simp at this; omega)
  clear mA11 mB11
  go_wp2_with fail
  refine (sB (heldInt64S_any _ _ (wtF J xs0 a1 a2).1.length 1 _ _ (by omega) (by omega) (by omega) hp12.ints)).mono ?_
  rintro e w13 ⟨rfl, hb13⟩
  have sz13 : w12.heap.size ≤ w13.heap.size := hb13.size
  have be13 := be12.trans (hb13.mono be12.size)
  have mA13 := ((bcell hb13).1 _ _ (by omega)).trans mA12
  have mB13 := ((bcell hb13).1 _ _ (by omega)).trans mB12
  clear mA12 mB12
  go_wp2_with fail
  refine (toMine_any J A0 c0 xs0 w.heap.size _ (by omega) (HI0.out.below be13) be13.size).mono ?_
  rintro e w14 ⟨v14, rfl, ho14, hb14⟩
  have sz14 : w13.heap.size ≤ w14.heap.size := hb14.size
  have be14 := be13.trans (hb14.mono be13.size)
  have mA14 := ((bcell hb14).1 _ _ (by omega)).trans mA13
  have mB14 := ((bcell hb14).1 _ _ (by omega)).trans mB13
  clear mA13 mB13
  obtain ⟨A_14, c_14, rfl, -, -⟩ := ho14.slice encA_len
  go_wp2_with fail
  refine (WalkTimes_i J _ _ xs0 a1 a2 _ (by omega) HF0.out (ho14.rows encA_len) b1 b2).mono ?_
  rintro e w15 ⟨v15, rfl, ho15, hb15⟩
  have sz15 : w14.heap.size ≤ w15.heap.size := hb15.size
  have be15 := be14.trans (hb15.mono be14.size)
  have mA15 := ((bcell hb15).1 _ _ (by omega)).trans mA14
  have mB15 := ((bcell hb15).1 _ _ (by omega)).trans mB14
  clear mA14 mB14
  obtain ⟨A_15, c_15, rfl, -, -⟩ := ho15.slice
  go_wp2_with fail
  refine (dB (eqInt64S_yes _ _ _ _ (wtF J xs0 a1 a2).1 _ _ _ (by omega) ho15.ints ((((((((((((ho3.later hb4).later hb5).later hb6).later hb7).later hb8).later hb9).kept hg10 (apart_rows ho3 ho4 (by omega))).later hb11).kept hg12 (apart_rows ho3 ho6 (by omega))).later hb13).later hb14).later hb15).ints)).mono ?_
  rintro e w16 ⟨rfl, hb16⟩
  have sz16 : w15.heap.size ≤ w16.heap.size := hb16.size
  have be16 := be15.trans (hb16.mono be15.size)
  have mA16 := ((bcell hb16).1 _ _ (by omega)).trans mA15
  have mB16 := ((bcell hb16).1 _ _ (by omega)).trans mB15
  clear mA15 mB15
  go_wp2_with fail
  refine (sB (heldInt64S_any _ _ (wtF J xs0 a1 a2).1.length 1 _ _ (by omega) (by omega) (by omega) ((((hp12.later hb13).later hb14).later hb15).later hb16).ints)).mono ?_
  rintro e w17 ⟨rfl, hb17⟩
  have sz17 : w16.heap.size ≤ w17.heap.size := hb17.size
  have be17 := be16.trans (hb17.mono be16.size)
  have mA17 := ((bcell hb17).1 _ _ (by omega)).trans mA16
  have mB17 := ((bcell hb17).1 _ _ (by omega)).trans mB16
  clear mA16 mB16
  go_wp2_with fail
  go_ret
  exact ⟨rfl, be17⟩
end Go.Proofs.Ytlgagnbnjfneaaa
