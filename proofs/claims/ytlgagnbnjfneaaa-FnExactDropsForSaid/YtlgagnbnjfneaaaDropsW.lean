/- The law of the drops of a mine: its walk. -/
import Derived.Test.YtlgagnbnjfneaaaDrops
import Derived.Test.YtlgagnbnjfneaaaMineW
namespace Go.Proofs.Ytlgagnbnjfneaaa
open Go.RowKit
open Pl
set_option maxRecDepth 100000 in
set_option maxHeartbeats 1600000 in
theorem fnExactDropsFor_walk {w : World} (J : Int) (A0 : Option Addr) (c0 : Nat) (xs0 : List Aw) (I0 : Recs encA 7 w.heap.size w A0 xs0) (F0 : FitsA xs0) (l0 : xs0.length ≤ maxLen) (A1 : Option Addr) (c1 : Nat) (xs1 : List Int) (I1 : Ints w.heap.size w A1 xs1) (T1 : Fits xs1) (_ : xs1.length ≤ maxLen) (A2 : Option Addr) (c2 : Nat) (xs2 : List Int) (I2 : Ints w.heap.size w A2 xs2) (T2 : Fits xs2) (_ : xs2.length ≤ maxLen) :
    Calls Try.prog 3 #[.agg #[.int .i64 J, .slice A0 xs0.length c0], .slice A1 xs1.length c1, .slice A2 xs2.length c2] w fun e w' => e = .returned (.bool true) ∧ Below w.heap.size w w' := by
  by_cases hn1 : (xs1.length : Int) ≤ 1048576
  rotate_left
  · go_enter Try.func3, Try.ntmps3
    go_wp2
    go_ret
    exact ⟨rfl, by go_grown⟩
  by_cases hn2 : (xs2.length : Int) ≤ 1048576
  rotate_left
  · go_enter Try.func3, Try.ntmps3
    go_wp2
    go_ret
    exact ⟨rfl, by go_grown⟩
  have hb0 : Below w.heap.size w (w.alloc (.cells #[.int .i64 J, .slice A0 xs0.length c0] 24)) := by go_grown
  have HI0 := Lib.hid I0
  have HF0 := Lib.hid F0
  have HI1 := Lib.hid I1
  have HT1 := Lib.hid T1
  have HI2 := Lib.hid I2
  have HT2 := Lib.hid T2
  have HS := Lib.hid (fun (W : World) (hb : Below w.heap.size w W) => szMine_any J A0 c0 xs0 1048576 w.heap.size W (by omega) (by omega) l0 F0 (I0.below hb) hb.size)
  clear I0 F0 I1 T1 I2 T2
  have hR : (dropF J xs0 xs1 xs2).1.length ≤ 1048576 := by
    unfold dropF
    split
    · split
      · simp only [dropN_length]; omega
      · simp
    · simp
  have hor : szA xs0 1048576 < 0 ∨ (0 ≤ szA xs0 1048576 ∧ (xs0.length : Int) ≤ 1048576) := by
    have h0 : ∀ n, 0 ≤ idLen xs0 n := fun n => by
      induction n with
      | zero => simp [idLen]
      | succ n ih => simp only [idLen]; omega
    have := h0 xs0.length
    unfold szA
    split <;> omega
  generalize szA xs0 1048576 = q at *
  rcases hor with hq | ⟨hq, hn0⟩
  · go_enter Try.func3, Try.ntmps3
    go_wp2_with fail
    refine (HS.out _ hb0).mono ?_
    rintro e w1 ⟨rfl, hb1⟩
    go_wp2_with fail
    go_ret
    exact ⟨rfl, hb0.trans (hb1.mono hb0.size)⟩
  go_enter Try.func3, Try.ntmps3
  go_wp2_with fail
  refine (HS.out _ hb0).mono ?_
  rintro e w1 ⟨rfl, hb1⟩
  have mA1 : w1.cell? ⟨w.heap.size, 0, none⟩ = some (.int .i64 J) := by rw [(bcell hb1).1 _ _ (by simp)]; go_simp
  have mB1 : w1.cell? ⟨w.heap.size, 1, none⟩ = some (.slice A0 xs0.length c0) := by rw [(bcell hb1).1 _ _ (by simp)]; go_simp
  have be1 := hb0.trans (hb1.mono hb0.size)
  have lt1 : w.heap.size < w1.heap.size := by have := hb1.size; simp at this; omega
  clear hb1
  go_wp2_with fail
  refine (toMine_any J A0 c0 xs0 w.heap.size _ (by omega) (HI0.out.below be1) be1.size).mono ?_
  rintro e w2 ⟨v2, rfl, ho2, hb2⟩
  have sz1 : w.heap.size < w1.heap.size := lt1
  have sz2 : w1.heap.size ≤ w2.heap.size := hb2.size
  have mA2 := ((bcell hb2).1 _ _ (by omega)).trans mA1
  have mB2 := ((bcell hb2).1 _ _ (by omega)).trans mB1
  have be2 := be1.trans (hb2.mono be1.size)
  clear mA1 mB1
  obtain ⟨A_2, c_2, rfl, -, -⟩ := ho2.slice encA_len
  go_wp2_with fail
  refine (toInt64S_any A1 c1 xs1 w.heap.size _ (by omega) (HI1.out.below be2) be2.size).mono ?_
  rintro e w3 ⟨rfl, ho3, hb3⟩
  have sz3 : w2.heap.size ≤ w3.heap.size := hb3.size
  have mA3 := ((bcell hb3).1 _ _ (by omega)).trans mA2
  have mB3 := ((bcell hb3).1 _ _ (by omega)).trans mB2
  have be3 := be2.trans (hb3.mono be2.size)
  clear mA2 mB2
  go_wp2_with fail
  refine (toInt64S_any A2 c2 xs2 w.heap.size _ (by omega) (HI2.out.below be3) be3.size).mono ?_
  rintro e w4 ⟨rfl, ho4, hb4⟩
  have sz4 : w3.heap.size ≤ w4.heap.size := hb4.size
  have mA4 := ((bcell hb4).1 _ _ (by omega)).trans mA3
  have mB4 := ((bcell hb4).1 _ _ (by omega)).trans mB3
  have be4 := be3.trans (hb4.mono be3.size)
  clear mA3 mB3
  go_wp2_with fail
  refine (DropsFor_s J _ _ xs0 _ _ xs1 _ _ xs2 _ (by omega) HF0.out (((ho2.later hb3).later hb4).rows encA_len) (by omega) ((ho3.later hb4).ints) (by omega) ho4.ints).mono ?_
  rintro e w5 ⟨v5, rfl, ho5, hb5⟩
  have sz5 : w4.heap.size ≤ w5.heap.size := hb5.size
  have mA5 := ((bcell hb5).1 _ _ (by omega)).trans mA4
  have mB5 := ((bcell hb5).1 _ _ (by omega)).trans mB4
  have be5 := be4.trans (hb5.mono be4.size)
  clear mA4 mB4
  obtain ⟨A_5, c_5, rfl, -, -⟩ := ho5.slice
  clear hb2 hb3 hb4 hb5 ho2 ho3 ho4
  go_wp2_with fail
  refine (toMine_any J A0 c0 xs0 w.heap.size _ (by omega) (HI0.out.below be5) be5.size).mono ?_
  rintro e w6 ⟨v6, rfl, ho6, hb6⟩
  have sz6 : w5.heap.size ≤ w6.heap.size := hb6.size
  have mA6 := ((bcell hb6).1 _ _ (by omega)).trans mA5
  have mB6 := ((bcell hb6).1 _ _ (by omega)).trans mB5
  have be6 := be5.trans (hb6.mono be5.size)
  clear mA5 mB5
  obtain ⟨A_6, c_6, rfl, -, -⟩ := ho6.slice encA_len
  go_wp2_with fail
  have hb7 : Below w6.heap.size w6 (w6.alloc (.cells #[.int .i64 J, .slice A_6 xs0.length c_6] 31)) := (Below.refl _ _).alloc (Nat.le_refl _) _
  have nA7 : (w6.alloc (.cells #[.int .i64 J, .slice A_6 xs0.length c_6] 31)).cell? ⟨w6.heap.size, 0, none⟩ = some (.int .i64 J) := by go_simp
  have nB7 : (w6.alloc (.cells #[.int .i64 J, .slice A_6 xs0.length c_6] 31)).cell? ⟨w6.heap.size, 1, none⟩ = some (.slice A_6 xs0.length c_6) := by go_simp
  have lt7 : w6.heap.size < (w6.alloc (.cells #[.int .i64 J, .slice A_6 xs0.length c_6] 31)).heap.size := by simp
  generalize (w6.alloc (.cells #[.int .i64 J, .slice A_6 xs0.length c_6] 31)) = w7 at *
  have sz7 : w6.heap.size ≤ w7.heap.size := hb7.size
  have mA7 := ((bcell hb7).1 _ _ (by omega)).trans mA6
  have mB7 := ((bcell hb7).1 _ _ (by omega)).trans mB6
  have be7 := be6.trans (hb7.mono be6.size)
  clear mA6 mB6
  refine (toInt64S_any A1 c1 xs1 w.heap.size _ (by omega) (HI1.out.below be7) be7.size).mono ?_
  rintro e w8 ⟨rfl, ho8, hb8⟩
  have sz8 : w7.heap.size ≤ w8.heap.size := hb8.size
  have mA8 := ((bcell hb8).1 _ _ (by omega)).trans mA7
  have mB8 := ((bcell hb8).1 _ _ (by omega)).trans mB7
  have be8 := be7.trans (hb8.mono be7.size)
  clear mA7 mB7
  have nA8 := ((bcell hb8).1 _ _ (by omega)).trans nA7
  have nB8 := ((bcell hb8).1 _ _ (by omega)).trans nB7
  clear nA7 nB7
  go_wp2_with fail
  refine (toInt64S_any A2 c2 xs2 w.heap.size _ (by omega) (HI2.out.below be8) be8.size).mono ?_
  rintro e w9 ⟨rfl, ho9, hb9⟩
  have sz9 : w8.heap.size ≤ w9.heap.size := hb9.size
  have mA9 := ((bcell hb9).1 _ _ (by omega)).trans mA8
  have mB9 := ((bcell hb9).1 _ _ (by omega)).trans mB8
  have be9 := be8.trans (hb9.mono be8.size)
  clear mA8 mB8
  have nA9 := ((bcell hb9).1 _ _ (by omega)).trans nA8
  have nB9 := ((bcell hb9).1 _ _ (by omega)).trans nB8
  clear nA8 nB8
  go_wp2_with fail
  refine (DropsFor_i J _ _ xs0 _ _ xs1 _ _ xs2 _ (by omega) HF0.out ((((ho6.later hb7).later hb8).later hb9).rows encA_len) (by omega) ((ho8.later hb9).ints) HT1.out (by omega) ho9.ints HT2.out).mono ?_
  rintro e w10 ⟨v10, rfl, ho10, hb10⟩
  have sz10 : w9.heap.size ≤ w10.heap.size := hb10.size
  have mA10 := ((bcell hb10).1 _ _ (by omega)).trans mA9
  have mB10 := ((bcell hb10).1 _ _ (by omega)).trans mB9
  have be10 := be9.trans (hb10.mono be9.size)
  clear mA9 mB9
  have nA10 := ((bcell hb10).1 _ _ (by omega)).trans nA9
  have nB10 := ((bcell hb10).1 _ _ (by omega)).trans nB9
  clear nA9 nB9
  obtain ⟨A_10, c_10, rfl, -, -⟩ := ho10.slice
  go_wp2_with fail
  refine (dB (eqInt64S_yes _ _ _ _ (dropF J xs0 xs1 xs2).1 _ _ _ (by omega) ho10.ints (((((ho5.later hb6).later hb7).later hb8).later hb9).later hb10).ints)).mono ?_
  rintro e w11 ⟨rfl, hb11⟩
  have sz11 : w10.heap.size ≤ w11.heap.size := hb11.size
  have mA11 := ((bcell hb11).1 _ _ (by omega)).trans mA10
  have mB11 := ((bcell hb11).1 _ _ (by omega)).trans mB10
  have be11 := be10.trans (hb11.mono be10.size)
  clear mA10 mB10
  have nA11 := ((bcell hb11).1 _ _ (by omega)).trans nA10
  have nB11 := ((bcell hb11).1 _ _ (by omega)).trans nB10
  clear nA10 nB10
  go_wp2_with fail
  have ho6' := ((((ho6.later hb7).later hb8).later hb9).later hb10).later hb11
  have HX := Lib.hid ho6'
  clear ho6'
  have HB11 := Lib.hid be11
  go_region_held3 (fun w' => (w'.cell? ⟨w.heap.size, 0, none⟩ = some (.int .i64 J) ∧ w'.cell? ⟨w.heap.size, 1, none⟩ = some (.slice A0 xs0.length c0)) ∧ (w'.cell? ⟨w6.heap.size, 0, none⟩ = some (.int .i64 J) ∧ w'.cell? ⟨w6.heap.size, 1, none⟩ = some (.slice A_6 xs0.length c_6)))
    (first
      | go_keep
      | exact ⟨⟨((bcell hb13).1 _ _ (by have := hb12.size; simp at this; omega)).trans (((bcell hb12).1 _ _ (by simp <;> omega)).trans mA11), ((bcell hb13).1 _ _ (by have := hb12.size; simp at this; omega)).trans (((bcell hb12).1 _ _ (by simp <;> omega)).trans mB11)⟩, ((bcell hb13).1 _ _ (by have := hb12.size; simp at this; omega)).trans (((bcell hb12).1 _ _ (by simp <;> omega)).trans nA11), ((bcell hb13).1 _ _ (by have := hb12.size; simp at this; omega)).trans (((bcell hb12).1 _ _ (by simp <;> omega)).trans nB11)⟩
      | exact ⟨⟨((bcell hb12).1 _ _ (by simp <;> omega)).trans mA11, ((bcell hb12).1 _ _ (by simp <;> omega)).trans mB11⟩, ((bcell hb12).1 _ _ (by simp <;> omega)).trans nA11, ((bcell hb12).1 _ _ (by simp <;> omega)).trans nB11⟩)
    (first
      | (go_at_call 12; refine (toMine_any J A0 c0 xs0 w.heap.size _ (by omega) (by first | exact HI0.out.below HB11.out | exact HI0.out.below HB11.out.drew) (by first | exact HB11.out.size | exact HB11.out.drew.size)).mono ?_; rintro e w12 ⟨v12, rfl, ho12, hb12⟩; obtain ⟨A_12, c_12, rfl, -, -⟩ := ho12.slice encA_len)
      | (go_at_call 16; refine (eqMine_yes J _ _ _ _ xs0 _ _ _ (by omega) (by first | exact (HX.out.later hb12).rows encA_len | exact ((HX.out.later (Below.refl _ _).drew).later hb12).rows encA_len) (ho12.rows encA_len) (Nat.le_refl _) (Nat.le_refl _)).mono ?_; rintro e w13 ⟨rfl, hb13⟩))
  have hc12 : Below w11.heap.size w11 w12 := ((Below.refl w11.heap.size w11).drew).trans (hb12.mono (by simp))
  clear hb12
  have hb12 := hc12
  clear hc12
  have sz12 : w11.heap.size ≤ w12.heap.size := hb12.size
  have be12 := be11.trans (hb12.mono be11.size)
  have mA12 := ((bcell hb12).1 _ _ (by omega)).trans mA11
  have mB12 := ((bcell hb12).1 _ _ (by omega)).trans mB11
  have nA12 := ((bcell hb12).1 _ _ (by omega)).trans nA11
  have nB12 := ((bcell hb12).1 _ _ (by omega)).trans nB11
  clear mA11 mB11 nA11 nB11
  have sz13 : w12.heap.size ≤ w13.heap.size := hb13.size
  have be13 := be12.trans (hb13.mono be12.size)
  have mA13 := ((bcell hb13).1 _ _ (by omega)).trans mA12
  have mB13 := ((bcell hb13).1 _ _ (by omega)).trans mB12
  have nA13 := ((bcell hb13).1 _ _ (by omega)).trans nA12
  have nB13 := ((bcell hb13).1 _ _ (by omega)).trans nB12
  clear mA12 mB12 nA12 nB12
  go_wp2_with fail
  refine (toInt64S_any A1 c1 xs1 w.heap.size _ (by omega) (HI1.out.below be13) be13.size).mono ?_
  rintro e w14 ⟨rfl, ho14, hb14⟩
  have sz14 : w13.heap.size ≤ w14.heap.size := hb14.size
  have be14 := be13.trans (hb14.mono be13.size)
  have mA14 := ((bcell hb14).1 _ _ (by omega)).trans mA13
  have mB14 := ((bcell hb14).1 _ _ (by omega)).trans mB13
  have nA14 := ((bcell hb14).1 _ _ (by omega)).trans nA13
  have nB14 := ((bcell hb14).1 _ _ (by omega)).trans nB13
  clear mA13 mB13 nA13 nB13
  go_wp2_with fail
  refine (dB (eqInt64S_yes _ _ _ _ xs1 _ _ _ (by omega) ((((((ho8.later hb9).later hb10).later hb11).later hb12).later hb13).later hb14).ints ho14.ints)).mono ?_
  rintro e w15 ⟨rfl, hb15⟩
  have sz15 : w14.heap.size ≤ w15.heap.size := hb15.size
  have be15 := be14.trans (hb15.mono be14.size)
  have mA15 := ((bcell hb15).1 _ _ (by omega)).trans mA14
  have mB15 := ((bcell hb15).1 _ _ (by omega)).trans mB14
  have nA15 := ((bcell hb15).1 _ _ (by omega)).trans nA14
  have nB15 := ((bcell hb15).1 _ _ (by omega)).trans nB14
  clear mA14 mB14 nA14 nB14
  go_wp2_with fail
  refine (toInt64S_any A2 c2 xs2 w.heap.size _ (by omega) (HI2.out.below be15) be15.size).mono ?_
  rintro e w16 ⟨rfl, ho16, hb16⟩
  have sz16 : w15.heap.size ≤ w16.heap.size := hb16.size
  have be16 := be15.trans (hb16.mono be15.size)
  have mA16 := ((bcell hb16).1 _ _ (by omega)).trans mA15
  have mB16 := ((bcell hb16).1 _ _ (by omega)).trans mB15
  have nA16 := ((bcell hb16).1 _ _ (by omega)).trans nA15
  have nB16 := ((bcell hb16).1 _ _ (by omega)).trans nB15
  clear mA15 mB15 nA15 nB15
  go_wp2_with fail
  refine (dB (eqInt64S_yes _ _ _ _ xs2 _ _ _ (by omega) (((((((ho9.later hb10).later hb11).later hb12).later hb13).later hb14).later hb15).later hb16).ints ho16.ints)).mono ?_
  rintro e w17 ⟨rfl, hb17⟩
  have sz17 : w16.heap.size ≤ w17.heap.size := hb17.size
  have be17 := be16.trans (hb17.mono be16.size)
  have mA17 := ((bcell hb17).1 _ _ (by omega)).trans mA16
  have mB17 := ((bcell hb17).1 _ _ (by omega)).trans mB16
  have nA17 := ((bcell hb17).1 _ _ (by omega)).trans nA16
  have nB17 := ((bcell hb17).1 _ _ (by omega)).trans nB16
  clear mA16 mB16 nA16 nB16
  go_wp2_with fail
  have hx17 := (((((HX.out.later hb12).later hb13).later hb14).later hb15).later hb16).later hb17
  have r8 := ((((((((ho8.later hb9).later hb10).later hb11).later hb12).later hb13).later hb14).later hb15).later hb16).later hb17
  have r9 := (((((((ho9.later hb10).later hb11).later hb12).later hb13).later hb14).later hb15).later hb16).later hb17
  have r10 := ((((((ho10.later hb11).later hb12).later hb13).later hb14).later hb15).later hb16).later hb17
  have r5 := (((((((((((ho5.later hb6).later hb7).later hb8).later hb9).later hb10).later hb11).later hb12).later hb13).later hb14).later hb15).later hb16).later hb17
  refine (markMine_own J _ xs0 1 _ _ (by omega) (by omega) (by omega) hx17).mono ?_
  rintro e w18 ⟨rfl, _, hg18⟩
  have sz18 : w17.heap.size ≤ w18.heap.size := hg18.size
  have be18 : Below w.heap.size w w18 := be17.grown hg18 be17.size (fun g h => by have := (World.ownsRow.lt ho6 g h).1; omega)
  have mA18 := hg18.cell mA17 (fun e => by have := (World.ownsRow.lt ho6 _ e.symm).1; simp at this; omega)
  have mB18 := hg18.cell mB17 (fun e => by have := (World.ownsRow.lt ho6 _ e.symm).1; simp at this; omega)
  have t8 := r8.kept hg18 (apart_rows ho8 ho6 (.inr (by omega)))
  have t9 := r9.kept hg18 (apart_rows ho9 ho6 (.inr (by omega)))
  have t10 := r10.kept hg18 (apart_rows ho10 ho6 (.inr (by omega)))
  have t5 := r5.kept hg18 (apart_rows ho5 ho6 (.inl (by omega)))
  clear mA17 mB17 nA17 nB17 r8 r9 r10 r5
  go_wp2_with fail
  refine (markInt64S_own _ _ _ xs1 (1 + 7 * (xs0.length : Int)) _ _ (by omega) (by omega) (by omega) rfl t8).mono ?_
  rintro e w19 ⟨rfl, _, hg19⟩
  have be19 := Own.grew be18 t8 (by omega) be18.size hg19
  have sz19 : w18.heap.size ≤ w19.heap.size := hg19.size
  have mA19 := hg19.cell mA18 (fun e => by have := (World.ownsRow.lt ho8 _ e.symm).1; simp at this; omega)
  have mB19 := hg19.cell mB18 (fun e => by have := (World.ownsRow.lt ho8 _ e.symm).1; simp at this; omega)
  clear mA18 mB18
  have u9 := t9.kept hg19 (ho9.apart ho8 (by omega))
  have u10 := t10.kept hg19 (ho10.apart ho8 (by omega))
  have u5 := t5.kept hg19 (ho5.apart ho8 (by omega))
  go_wp2_with fail
  refine (markInt64S_own _ _ _ xs2 (1 + 7 * (xs0.length : Int) + (xs1.length : Int)) _ _ (by omega) (by omega) (by omega) rfl u9).mono ?_
  rintro e w20 ⟨rfl, _, hg20⟩
  have be20 := Own.grew be19 u9 (by omega) be19.size hg20
  have sz20 : w19.heap.size ≤ w20.heap.size := hg20.size
  have mA20 := hg20.cell mA19 (fun e => by have := (World.ownsRow.lt ho9 _ e.symm).1; simp at this; omega)
  have mB20 := hg20.cell mB19 (fun e => by have := (World.ownsRow.lt ho9 _ e.symm).1; simp at this; omega)
  clear mA19 mB19
  have v10 := u10.kept hg20 (ho10.apart ho9 (by omega))
  have v5 := u5.kept hg20 (ho5.apart ho9 (by omega))
  go_wp2_with fail
  refine (dB (eqInt64S_yes _ _ _ _ (dropF J xs0 xs1 xs2).1 _ _ _ (by omega) v10.ints v5.ints)).mono ?_
  rintro e w21 ⟨rfl, hb21⟩
  have sz21 : w20.heap.size ≤ w21.heap.size := hb21.size
  have be21 := be20.trans (hb21.mono be20.size)
  have mA21 := ((bcell hb21).1 _ _ (by omega)).trans mA20
  have mB21 := ((bcell hb21).1 _ _ (by omega)).trans mB20
  clear mA20 mB20
  have x10 := v10.later hb21
  have x5 := v5.later hb21
  go_wp2_with fail
  refine (markInt64S_own _ _ _ (dropF J xs0 xs1 xs2).1 1 _ _ (by omega) (by omega) (by omega) rfl x10).mono ?_
  rintro e w22 ⟨rfl, hp22, hg22⟩
  have be22 := Own.grew be21 x10 (by omega) be21.size hg22
  have sz22 : w21.heap.size ≤ w22.heap.size := hg22.size
  have mA22 := hg22.cell mA21 (fun e => by have := (World.ownsRow.lt ho10 _ e.symm).1; simp at this; omega)
  have mB22 := hg22.cell mB21 (fun e => by have := (World.ownsRow.lt ho10 _ e.symm).1; simp at this; omega)
  clear mA21 mB21
  have y5 := x5.kept hg22 (ho5.apart ho10 (by omega))
  go_wp2_with fail
  refine (sB (heldInt64S_any _ _ (dropF J xs0 xs1 xs2).1.length 1 _ _ (by omega) (by omega) (by omega) hp22.ints)).mono ?_
  rintro e w23 ⟨rfl, hb23⟩
  have sz23 : w22.heap.size ≤ w23.heap.size := hb23.size
  have be23 := be22.trans (hb23.mono be22.size)
  have mA23 := ((bcell hb23).1 _ _ (by omega)).trans mA22
  have mB23 := ((bcell hb23).1 _ _ (by omega)).trans mB22
  clear mA22 mB22
  go_wp2_with fail
  refine (toMine_any J A0 c0 xs0 w.heap.size _ (by omega) (HI0.out.below be23) be23.size).mono ?_
  rintro e w24 ⟨v24, rfl, ho24, hb24⟩
  obtain ⟨A_24, c_24, rfl, -, -⟩ := ho24.slice encA_len
  have sz24 : w23.heap.size ≤ w24.heap.size := hb24.size
  have be24 := be23.trans (hb24.mono be23.size)
  have mA24 := ((bcell hb24).1 _ _ (by omega)).trans mA23
  have mB24 := ((bcell hb24).1 _ _ (by omega)).trans mB23
  clear mA23 mB23
  go_wp2_with fail
  refine (toInt64S_any A1 c1 xs1 w.heap.size _ (by omega) (HI1.out.below be24) be24.size).mono ?_
  rintro e w25 ⟨rfl, ho25, hb25⟩
  have sz25 : w24.heap.size ≤ w25.heap.size := hb25.size
  have be25 := be24.trans (hb25.mono be24.size)
  have mA25 := ((bcell hb25).1 _ _ (by omega)).trans mA24
  have mB25 := ((bcell hb25).1 _ _ (by omega)).trans mB24
  clear mA24 mB24
  go_wp2_with fail
  refine (toInt64S_any A2 c2 xs2 w.heap.size _ (by omega) (HI2.out.below be25) be25.size).mono ?_
  rintro e w26 ⟨rfl, ho26, hb26⟩
  have sz26 : w25.heap.size ≤ w26.heap.size := hb26.size
  have be26 := be25.trans (hb26.mono be25.size)
  have mA26 := ((bcell hb26).1 _ _ (by omega)).trans mA25
  have mB26 := ((bcell hb26).1 _ _ (by omega)).trans mB25
  clear mA25 mB25
  go_wp2_with fail
  refine (DropsFor_i J _ _ xs0 _ _ xs1 _ _ xs2 _ (by omega) HF0.out (((ho24.later hb25).later hb26).rows encA_len) (by omega) ((ho25.later hb26).ints) HT1.out (by omega) ho26.ints HT2.out).mono ?_
  rintro e w27 ⟨v27, rfl, ho27, hb27⟩
  obtain ⟨A_27, c_27, rfl, -, -⟩ := ho27.slice
  have sz27 : w26.heap.size ≤ w27.heap.size := hb27.size
  have be27 := be26.trans (hb27.mono be26.size)
  have mA27 := ((bcell hb27).1 _ _ (by omega)).trans mA26
  have mB27 := ((bcell hb27).1 _ _ (by omega)).trans mB26
  clear mA26 mB26
  go_wp2_with fail
  refine (dB (eqInt64S_yes _ _ _ _ (dropF J xs0 xs1 xs2).1 _ _ _ (by omega) ho27.ints (((((y5.later hb23).later hb24).later hb25).later hb26).later hb27).ints)).mono ?_
  rintro e w28 ⟨rfl, hb28⟩
  have sz28 : w27.heap.size ≤ w28.heap.size := hb28.size
  have be28 := be27.trans (hb28.mono be27.size)
  have mA28 := ((bcell hb28).1 _ _ (by omega)).trans mA27
  have mB28 := ((bcell hb28).1 _ _ (by omega)).trans mB27
  clear mA27 mB27
  go_wp2_with fail
  refine (sB (heldInt64S_any _ _ (dropF J xs0 xs1 xs2).1.length 1 _ _ (by omega) (by omega) (by omega) ((((((hp22.later hb23).later hb24).later hb25).later hb26).later hb27).later hb28).ints)).mono ?_
  rintro e w29 ⟨rfl, hb29⟩
  have sz29 : w28.heap.size ≤ w29.heap.size := hb29.size
  have be29 := be28.trans (hb29.mono be28.size)
  have mA29 := ((bcell hb29).1 _ _ (by omega)).trans mA28
  have mB29 := ((bcell hb29).1 _ _ (by omega)).trans mB28
  clear mA28 mB28
  go_wp2_with fail
  go_ret
  exact ⟨rfl, be29⟩
end Go.Proofs.Ytlgagnbnjfneaaa
