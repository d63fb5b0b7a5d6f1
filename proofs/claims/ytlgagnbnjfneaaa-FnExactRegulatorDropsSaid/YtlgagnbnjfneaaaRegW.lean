/- The law of what regulators take away: its walk. -/
import Derived.Test.YtlgagnbnjfneaaaRegF
import Derived.Test.YtlgagnbnjfneaaaMineW
namespace Go.Proofs.Ytlgagnbnjfneaaa
open Go.RowKit
open Pl
set_option maxRecDepth 100000 in
set_option maxHeartbeats 3200000 in
theorem fnExactRegulatorDrops_walk {w : World} (J : Int) (A0 : Option Addr) (c0 : Nat) (xs0 : List Aw) (I0 : Recs encA 7 w.heap.size w A0 xs0) (F0 : FitsA xs0) (l0 : xs0.length ≤ maxLen) (A1 : Option Addr) (c1 : Nat) (xs1 : List Int) (I1 : Ints w.heap.size w A1 xs1) (T1 : Fits xs1) (_ : xs1.length ≤ maxLen) (A2 : Option Addr) (c2 : Nat) (xs2 : List Int) (I2 : Ints w.heap.size w A2 xs2) (T2 : Fits xs2) (_ : xs2.length ≤ maxLen) (A3 : Option Addr) (c3 : Nat) (xs3 : List Bool) (I3 : Bools w.heap.size w A3 xs3) (_ : xs3.length ≤ maxLen) :
    Calls Try.prog 7 #[.agg #[.int .i64 J, .slice A0 xs0.length c0], .slice A1 xs1.length c1, .slice A2 xs2.length c2, .slice A3 xs3.length c3] w fun e w' => e = .returned (.bool true) ∧ Below w.heap.size w w' := by
  by_cases hn1 : (xs1.length : Int) ≤ 1048576
  rotate_left
  · go_enter Try.func7, Try.ntmps7
    go_wp2
    go_ret
    exact ⟨rfl, by go_grown⟩
  by_cases hn2 : (xs2.length : Int) ≤ 1048576
  rotate_left
  · go_enter Try.func7, Try.ntmps7
    go_wp2
    go_ret
    exact ⟨rfl, by go_grown⟩
  by_cases hn3 : (xs3.length : Int) ≤ 1048576
  rotate_left
  · go_enter Try.func7, Try.ntmps7
    go_wp2
    go_ret
    exact ⟨rfl, by go_grown⟩
  have hb0 : Below w.heap.size w (w.alloc (.cells #[.int .i64 J, .slice A0 xs0.length c0] 24)) := by go_grown
  have HI0 := Lib.hid I0
  have HF0 := Lib.hid F0
  have HT1 := Lib.hid T1
  have HI1 := Lib.hid I1
  have HT2 := Lib.hid T2
  have HI2 := Lib.hid I2
  have HI3 := Lib.hid I3
  have HS := Lib.hid (fun (W : World) (hb : Below w.heap.size w W) => szMine_any J A0 c0 xs0 1048576 w.heap.size W (by omega) (by omega) l0 F0 (I0.below hb) hb.size)
  clear I0 F0 T1 I1 T2 I2 I3
  have hR : (regF J xs0 xs1 xs2 xs3).1.length ≤ 1048576 := regF_len J xs0 xs1 xs2 xs3
  have hor : szA xs0 1048576 < 0 ∨ (0 ≤ szA xs0 1048576 ∧ (xs0.length : Int) ≤ 1048576) := szA_or xs0
  generalize szA xs0 1048576 = q at *
  rcases hor with hq | ⟨hq, hn0⟩
  · go_enter Try.func7, Try.ntmps7
    go_wp2_with fail
    refine (HS.out _ hb0).mono ?_
    rintro e w1 ⟨rfl, hb1⟩
    go_wp2_with fail
    go_ret
    exact ⟨rfl, hb0.trans (hb1.mono hb0.size)⟩
  go_enter Try.func7, Try.ntmps7
  go_wp2_with fail
  refine (HS.out _ hb0).mono ?_
  rintro e w1 ⟨rfl, hb1⟩
  have mA1 : w1.cell? ⟨w.heap.size, 0, none⟩ = some (.int .i64 J) := by rw [(bcell hb1).1 _ _ (by simp)]; go_simp
  have mB1 : w1.cell? ⟨w.heap.size, 1, none⟩ = some (.slice A0 xs0.length c0) := by rw [(bcell hb1).1 _ _ (by simp)]; go_simp
  have be1 := hb0.trans (hb1.mono hb0.size)
  have sz1 : w.heap.size < w1.heap.size := by have := hb1.size; simp at this; omega
  clear hb1
  go_wp2_with fail
  refine (toMine_any J A0 c0 xs0 w.heap.size _ (by omega) (HI0.out.below be1) be1.size).mono ?_
  rintro e w2 ⟨v2, rfl, ho2, hb2⟩
  have sz2 : w1.heap.size ≤ w2.heap.size := hb2.size
  have be2 := be1.trans (hb2.mono be1.size)
  have mA2 := ((bcell hb2).1 _ _ (by omega)).trans mA1
  have mB2 := ((bcell hb2).1 _ _ (by omega)).trans mB1
  clear mA1 mB1
  obtain ⟨A_2, c_2, rfl, -, -⟩ := ho2.slice encA_len
  go_wp2_with fail
  refine (toInt64S_any A1 c1 xs1 w.heap.size _ (by omega) (HI1.out.below be2) be2.size).mono ?_
  rintro e w3 ⟨rfl, ho3, hb3⟩
  have sz3 : w2.heap.size ≤ w3.heap.size := hb3.size
  have be3 := be2.trans (hb3.mono be2.size)
  have mA3 := ((bcell hb3).1 _ _ (by omega)).trans mA2
  have mB3 := ((bcell hb3).1 _ _ (by omega)).trans mB2
  clear mA2 mB2
  go_wp2_with fail
  refine (toInt64S_any A2 c2 xs2 w.heap.size _ (by omega) (HI2.out.below be3) be3.size).mono ?_
  rintro e w4 ⟨rfl, ho4, hb4⟩
  have sz4 : w3.heap.size ≤ w4.heap.size := hb4.size
  have be4 := be3.trans (hb4.mono be3.size)
  have mA4 := ((bcell hb4).1 _ _ (by omega)).trans mA3
  have mB4 := ((bcell hb4).1 _ _ (by omega)).trans mB3
  clear mA3 mB3
  go_wp2_with fail
  refine (toBoolS_any A3 c3 xs3 w.heap.size _ (by omega) (HI3.out.below be4) be4.size).mono ?_
  rintro e w5 ⟨rfl, ho5, hb5⟩
  have sz5 : w4.heap.size ≤ w5.heap.size := hb5.size
  have be5 := be4.trans (hb5.mono be4.size)
  have mA5 := ((bcell hb5).1 _ _ (by omega)).trans mA4
  have mB5 := ((bcell hb5).1 _ _ (by omega)).trans mB4
  clear mA4 mB4
  go_wp2_with fail
  refine (RegulatorDrops_s J _ _ xs0 _ _ xs1 _ _ xs2 _ _ xs3 _ (by omega) HF0.out ((((ho2.later hb3).later hb4).later hb5).rows encA_len) hn1 ((ho3.later hb4).later hb5).ints HT1.out hn2 (ho4.later hb5).ints HT2.out hn3 ho5.ints).mono ?_
  rintro e w6 ⟨v6, rfl, ho6, hb6⟩
  have sz6 : w5.heap.size ≤ w6.heap.size := hb6.size
  have be6 := be5.trans (hb6.mono be5.size)
  have mA6 := ((bcell hb6).1 _ _ (by omega)).trans mA5
  have mB6 := ((bcell hb6).1 _ _ (by omega)).trans mB5
  clear mA5 mB5
  obtain ⟨A_6, c_6, rfl, -, -⟩ := ho6.slice
  go_wp2_with fail
  refine (toMine_any J A0 c0 xs0 w.heap.size _ (by omega) (HI0.out.below be6) be6.size).mono ?_
  rintro e w7 ⟨v7, rfl, ho7, hb7⟩
  have sz7 : w6.heap.size ≤ w7.heap.size := hb7.size
  have be7 := be6.trans (hb7.mono be6.size)
  have mA7 := ((bcell hb7).1 _ _ (by omega)).trans mA6
  have mB7 := ((bcell hb7).1 _ _ (by omega)).trans mB6
  clear mA6 mB6
  obtain ⟨A_7, c_7, rfl, -, -⟩ := ho7.slice encA_len
  go_wp2_with fail
  have hb8 : Below w7.heap.size w7 (w7.alloc (.cells #[.int .i64 J, .slice A_7 xs0.length c_7] 31)) := (Below.refl _ _).alloc (Nat.le_refl _) _
  have nA8 : (w7.alloc (.cells #[.int .i64 J, .slice A_7 xs0.length c_7] 31)).cell? ⟨w7.heap.size, 0, none⟩ = some (.int .i64 J) := by go_simp
  have nB8 : (w7.alloc (.cells #[.int .i64 J, .slice A_7 xs0.length c_7] 31)).cell? ⟨w7.heap.size, 1, none⟩ = some (.slice A_7 xs0.length c_7) := by go_simp
  have lt8 : w7.heap.size < (w7.alloc (.cells #[.int .i64 J, .slice A_7 xs0.length c_7] 31)).heap.size := by simp
  generalize (w7.alloc (.cells #[.int .i64 J, .slice A_7 xs0.length c_7] 31)) = w8 at *
  have sz8 : w7.heap.size ≤ w8.heap.size := hb8.size
  have be8 := be7.trans (hb8.mono be7.size)
  have mA8 := ((bcell hb8).1 _ _ (by omega)).trans mA7
  have mB8 := ((bcell hb8).1 _ _ (by omega)).trans mB7
  clear mA7 mB7
  refine (toInt64S_any A1 c1 xs1 w.heap.size _ (by omega) (HI1.out.below be8) be8.size).mono ?_
  rintro e w9 ⟨rfl, ho9, hb9⟩
  have sz9 : w8.heap.size ≤ w9.heap.size := hb9.size
  have be9 := be8.trans (hb9.mono be8.size)
  have mA9 := ((bcell hb9).1 _ _ (by omega)).trans mA8
  have mB9 := ((bcell hb9).1 _ _ (by omega)).trans mB8
  have nA9 := ((bcell hb9).1 _ _ (by omega)).trans nA8
  have nB9 := ((bcell hb9).1 _ _ (by omega)).trans nB8
  clear mA8 mB8 nA8 nB8
  go_wp2_with fail
  refine (toInt64S_any A2 c2 xs2 w.heap.size _ (by omega) (HI2.out.below be9) be9.size).mono ?_
  rintro e w10 ⟨rfl, ho10, hb10⟩
  have sz10 : w9.heap.size ≤ w10.heap.size := hb10.size
  have be10 := be9.trans (hb10.mono be9.size)
  have mA10 := ((bcell hb10).1 _ _ (by omega)).trans mA9
  have mB10 := ((bcell hb10).1 _ _ (by omega)).trans mB9
  have nA10 := ((bcell hb10).1 _ _ (by omega)).trans nA9
  have nB10 := ((bcell hb10).1 _ _ (by omega)).trans nB9
  clear mA9 mB9 nA9 nB9
  go_wp2_with fail
  refine (toBoolS_any A3 c3 xs3 w.heap.size _ (by omega) (HI3.out.below be10) be10.size).mono ?_
  rintro e w11 ⟨rfl, ho11, hb11⟩
  have sz11 : w10.heap.size ≤ w11.heap.size := hb11.size
  have be11 := be10.trans (hb11.mono be10.size)
  have mA11 := ((bcell hb11).1 _ _ (by omega)).trans mA10
  have mB11 := ((bcell hb11).1 _ _ (by omega)).trans mB10
  have nA11 := ((bcell hb11).1 _ _ (by omega)).trans nA10
  have nB11 := ((bcell hb11).1 _ _ (by omega)).trans nB10
  clear mA10 mB10 nA10 nB10
  go_wp2_with fail
  refine (RegulatorDrops_i J _ _ xs0 _ _ xs1 _ _ xs2 _ _ xs3 _ (by omega) HF0.out (((((ho7.later hb8).later hb9).later hb10).later hb11).rows encA_len) hn1 ((ho9.later hb10).later hb11).ints HT1.out hn2 (ho10.later hb11).ints HT2.out hn3 ho11.ints).mono ?_
  rintro e w12 ⟨v12, rfl, ho12, hb12⟩
  have sz12 : w11.heap.size ≤ w12.heap.size := hb12.size
  have be12 := be11.trans (hb12.mono be11.size)
  have mA12 := ((bcell hb12).1 _ _ (by omega)).trans mA11
  have mB12 := ((bcell hb12).1 _ _ (by omega)).trans mB11
  have nA12 := ((bcell hb12).1 _ _ (by omega)).trans nA11
  have nB12 := ((bcell hb12).1 _ _ (by omega)).trans nB11
  clear mA11 mB11 nA11 nB11
  obtain ⟨A_12, c_12, rfl, -, -⟩ := ho12.slice
  go_wp2_with fail
  refine (dB (eqInt64S_yes _ _ _ _ (regF J xs0 xs1 xs2 xs3).1 _ _ _ (by omega) ho12.ints ((((((ho6.later hb7).later hb8).later hb9).later hb10).later hb11).later hb12).ints)).mono ?_
  rintro e w13 ⟨rfl, hb13⟩
  have sz13 : w12.heap.size ≤ w13.heap.size := hb13.size
  have be13 := be12.trans (hb13.mono be12.size)
  have mA13 := ((bcell hb13).1 _ _ (by omega)).trans mA12
  have mB13 := ((bcell hb13).1 _ _ (by omega)).trans mB12
  have nA13 := ((bcell hb13).1 _ _ (by omega)).trans nA12
  have nB13 := ((bcell hb13).1 _ _ (by omega)).trans nB12
  clear mA12 mB12 nA12 nB12
  go_wp2_with fail
  have hox := ((((((ho7.later hb8).later hb9).later hb10).later hb11).later hb12).later hb13)
  have HX := Lib.hid hox
  clear hox
  have HBX := Lib.hid be13
  go_region_held3 (fun w' => (w'.cell? ⟨w.heap.size, 0, none⟩ = some (.int .i64 J) ∧ w'.cell? ⟨w.heap.size, 1, none⟩ = some (.slice A0 xs0.length c0)) ∧ (w'.cell? ⟨w7.heap.size, 0, none⟩ = some (.int .i64 J) ∧ w'.cell? ⟨w7.heap.size, 1, none⟩ = some (.slice A_7 xs0.length c_7)))
    (first
      | go_keep
      | exact ⟨⟨((bcell hb15).1 _ _ (by have := hb14.size; simp at this; omega)).trans (((bcell hb14).1 _ _ (by simp <;> omega)).trans mA13), ((bcell hb15).1 _ _ (by have := hb14.size; simp at this; omega)).trans (((bcell hb14).1 _ _ (by simp <;> omega)).trans mB13)⟩, ((bcell hb15).1 _ _ (by have := hb14.size; simp at this; omega)).trans (((bcell hb14).1 _ _ (by simp <;> omega)).trans nA13), ((bcell hb15).1 _ _ (by have := hb14.size; simp at this; omega)).trans (((bcell hb14).1 _ _ (by simp <;> omega)).trans nB13)⟩
      | exact ⟨⟨((bcell hb14).1 _ _ (by simp <;> omega)).trans mA13, ((bcell hb14).1 _ _ (by simp <;> omega)).trans mB13⟩, ((bcell hb14).1 _ _ (by simp <;> omega)).trans nA13, ((bcell hb14).1 _ _ (by simp <;> omega)).trans nB13⟩)
    (first
      | (go_at_call 12; refine (toMine_any J A0 c0 xs0 w.heap.size _ (by omega) (by first | exact HI0.out.below HBX.out | exact HI0.out.below HBX.out.drew) (by first | exact HBX.out.size | exact HBX.out.drew.size)).mono ?_; rintro e w14 ⟨v14, rfl, ho14, hb14⟩; obtain ⟨A_14, c_14, rfl, -, -⟩ := ho14.slice encA_len)
      | (go_at_call 16; refine (eqMine_yes J _ _ _ _ xs0 _ _ _ (by omega) (by first | exact (HX.out.later hb14).rows encA_len | exact ((HX.out.later (Below.refl _ _).drew).later hb14).rows encA_len) (ho14.rows encA_len) (Nat.le_refl _) (Nat.le_refl _)).mono ?_; rintro e w15 ⟨rfl, hb15⟩))
  have hcx : Below w13.heap.size w13 w14 := ((Below.refl w13.heap.size w13).drew).trans (hb14.mono (by simp))
  clear hb14
  have hb14 := hcx
  clear hcx
  have sz14 : w13.heap.size ≤ w14.heap.size := hb14.size
  have be14 := be13.trans (hb14.mono be13.size)
  have mA14 := ((bcell hb14).1 _ _ (by omega)).trans mA13
  have mB14 := ((bcell hb14).1 _ _ (by omega)).trans mB13
  have nA14 := ((bcell hb14).1 _ _ (by omega)).trans nA13
  have nB14 := ((bcell hb14).1 _ _ (by omega)).trans nB13
  clear mA13 mB13 nA13 nB13
  have sz15 : w14.heap.size ≤ w15.heap.size := hb15.size
  have be15 := be14.trans (hb15.mono be14.size)
  have mA15 := ((bcell hb15).1 _ _ (by omega)).trans mA14
  have mB15 := ((bcell hb15).1 _ _ (by omega)).trans mB14
  have nA15 := ((bcell hb15).1 _ _ (by omega)).trans nA14
  have nB15 := ((bcell hb15).1 _ _ (by omega)).trans nB14
  clear mA14 mB14 nA14 nB14
  go_wp2_with fail
  refine (toInt64S_any A1 c1 xs1 w.heap.size _ (by omega) (HI1.out.below be15) be15.size).mono ?_
  rintro e w16 ⟨rfl, ho16, hb16⟩
  have sz16 : w15.heap.size ≤ w16.heap.size := hb16.size
  have be16 := be15.trans (hb16.mono be15.size)
  have mA16 := ((bcell hb16).1 _ _ (by omega)).trans mA15
  have mB16 := ((bcell hb16).1 _ _ (by omega)).trans mB15
  have nA16 := ((bcell hb16).1 _ _ (by omega)).trans nA15
  have nB16 := ((bcell hb16).1 _ _ (by omega)).trans nB15
  clear mA15 mB15 nA15 nB15
  go_wp2_with fail
  refine (dB (eqInt64S_yes _ _ _ _ xs1 _ _ _ (by omega) (((((((ho9.later hb10).later hb11).later hb12).later hb13).later hb14).later hb15).later hb16).ints ho16.ints)).mono ?_
  rintro e w17 ⟨rfl, hb17⟩
  have sz17 : w16.heap.size ≤ w17.heap.size := hb17.size
  have be17 := be16.trans (hb17.mono be16.size)
  have mA17 := ((bcell hb17).1 _ _ (by omega)).trans mA16
  have mB17 := ((bcell hb17).1 _ _ (by omega)).trans mB16
  have nA17 := ((bcell hb17).1 _ _ (by omega)).trans nA16
  have nB17 := ((bcell hb17).1 _ _ (by omega)).trans nB16
  clear mA16 mB16 nA16 nB16
  go_wp2_with fail
  refine (toInt64S_any A2 c2 xs2 w.heap.size _ (by omega) (HI2.out.below be17) be17.size).mono ?_
  rintro e w18 ⟨rfl, ho18, hb18⟩
  have sz18 : w17.heap.size ≤ w18.heap.size := hb18.size
  have be18 := be17.trans (hb18.mono be17.size)
  have mA18 := ((bcell hb18).1 _ _ (by omega)).trans mA17
  have mB18 := ((bcell hb18).1 _ _ (by omega)).trans mB17
  have nA18 := ((bcell hb18).1 _ _ (by omega)).trans nA17
  have nB18 := ((bcell hb18).1 _ _ (by omega)).trans nB17
  clear mA17 mB17 nA17 nB17
  go_wp2_with fail
  refine (dB (eqInt64S_yes _ _ _ _ xs2 _ _ _ (by omega) ((((((((ho10.later hb11).later hb12).later hb13).later hb14).later hb15).later hb16).later hb17).later hb18).ints ho18.ints)).mono ?_
  rintro e w19 ⟨rfl, hb19⟩
  have sz19 : w18.heap.size ≤ w19.heap.size := hb19.size
  have be19 := be18.trans (hb19.mono be18.size)
  have mA19 := ((bcell hb19).1 _ _ (by omega)).trans mA18
  have mB19 := ((bcell hb19).1 _ _ (by omega)).trans mB18
  have nA19 := ((bcell hb19).1 _ _ (by omega)).trans nA18
  have nB19 := ((bcell hb19).1 _ _ (by omega)).trans nB18
  clear mA18 mB18 nA18 nB18
  go_wp2_with fail
  refine (toBoolS_any A3 c3 xs3 w.heap.size _ (by omega) (HI3.out.below be19) be19.size).mono ?_
  rintro e w20 ⟨rfl, ho20, hb20⟩
  have sz20 : w19.heap.size ≤ w20.heap.size := hb20.size
  have be20 := be19.trans (hb20.mono be19.size)
  have mA20 := ((bcell hb20).1 _ _ (by omega)).trans mA19
  have mB20 := ((bcell hb20).1 _ _ (by omega)).trans mB19
  have nA20 := ((bcell hb20).1 _ _ (by omega)).trans nA19
  have nB20 := ((bcell hb20).1 _ _ (by omega)).trans nB19
  clear mA19 mB19 nA19 nB19
  go_wp2_with fail
  refine (dB (eqBoolS_yes _ _ _ _ xs3 _ _ _ (by omega) (((((((((ho11.later hb12).later hb13).later hb14).later hb15).later hb16).later hb17).later hb18).later hb19).later hb20).ints ho20.ints)).mono ?_
  rintro e w21 ⟨rfl, hb21⟩
  have sz21 : w20.heap.size ≤ w21.heap.size := hb21.size
  have be21 := be20.trans (hb21.mono be20.size)
  have mA21 := ((bcell hb21).1 _ _ (by omega)).trans mA20
  have mB21 := ((bcell hb21).1 _ _ (by omega)).trans mB20
  have nA21 := ((bcell hb21).1 _ _ (by omega)).trans nA20
  have nB21 := ((bcell hb21).1 _ _ (by omega)).trans nB20
  clear mA20 mB20 nA20 nB20
  go_wp2_with fail
  refine (markMine_own J _ xs0 1 _ _ (by omega) (by omega) (by omega) ((((((((((((((ho7.later hb8).later hb9).later hb10).later hb11).later hb12).later hb13).later hb14).later hb15).later hb16).later hb17).later hb18).later hb19).later hb20).later hb21)).mono ?_
  rintro e w22 ⟨rfl, _, hg22⟩
  have sz22 : w21.heap.size ≤ w22.heap.size := hg22.size
  have be22 : Below w.heap.size w w22 := be21.grown hg22 be21.size (fun g h => by have := (World.ownsRow.lt ho7 g h).1; omega)
  have mA22 := hg22.cell mA21 (fun e => by have := (World.ownsRow.lt ho7 _ e.symm).1; simp at this; omega)
  have mB22 := hg22.cell mB21 (fun e => by have := (World.ownsRow.lt ho7 _ e.symm).1; simp at this; omega)
  clear mA21 mB21
  go_wp2_with fail
  refine (markInt64S_own _ _ _ xs1 (1 + 7 * (xs0.length : Int)) _ _ (by omega) (by omega) (by omega) rfl (((((((((((((ho9.later hb10).later hb11).later hb12).later hb13).later hb14).later hb15).later hb16).later hb17).later hb18).later hb19).later hb20).later hb21).kept hg22 (apart_rows ho9 ho7 (by omega)))).mono ?_
  rintro e w23 ⟨rfl, _, hg23⟩
  have sz23 : w22.heap.size ≤ w23.heap.size := hg23.size
  have be23 : Below w.heap.size w w23 := be22.grown hg23 be22.size (fun g h => by have := (World.ownsRow.lt ho9 g h).1; omega)
  have mA23 := hg23.cell mA22 (fun e => by have := (World.ownsRow.lt ho9 _ e.symm).1; simp at this; omega)
  have mB23 := hg23.cell mB22 (fun e => by have := (World.ownsRow.lt ho9 _ e.symm).1; simp at this; omega)
  clear mA22 mB22
  go_wp2_with fail
  refine (markInt64S_own _ _ _ xs2 (1 + 7 * (xs0.length : Int) + (xs1.length : Int)) _ _ (by omega) (by omega) (by omega) rfl (((((((((((((ho10.later hb11).later hb12).later hb13).later hb14).later hb15).later hb16).later hb17).later hb18).later hb19).later hb20).later hb21).kept hg22 (apart_rows ho10 ho7 (by omega))).kept hg23 (apart_rows ho10 ho9 (by omega)))).mono ?_
  rintro e w24 ⟨rfl, _, hg24⟩
  have sz24 : w23.heap.size ≤ w24.heap.size := hg24.size
  have be24 : Below w.heap.size w w24 := be23.grown hg24 be23.size (fun g h => by have := (World.ownsRow.lt ho10 g h).1; omega)
  have mA24 := hg24.cell mA23 (fun e => by have := (World.ownsRow.lt ho10 _ e.symm).1; simp at this; omega)
  have mB24 := hg24.cell mB23 (fun e => by have := (World.ownsRow.lt ho10 _ e.symm).1; simp at this; omega)
  clear mA23 mB23
  go_wp2_with fail
  refine (markBoolS_own _ _ _ xs3 (1 + 7 * (xs0.length : Int) + (xs1.length : Int) + (xs2.length : Int)) _ _ (by omega) (by omega) (by omega) rfl (((((((((((((ho11.later hb12).later hb13).later hb14).later hb15).later hb16).later hb17).later hb18).later hb19).later hb20).later hb21).kept hg22 (apart_rows ho11 ho7 (by omega))).kept hg23 (apart_rows ho11 ho9 (by omega))).kept hg24 (apart_rows ho11 ho10 (by omega)))).mono ?_
  rintro e w25 ⟨rfl, _, hg25⟩
  have sz25 : w24.heap.size ≤ w25.heap.size := hg25.size
  have be25 : Below w.heap.size w w25 := be24.grown hg25 be24.size (fun g h => by have := (World.ownsRow.lt ho11 g h).1; omega)
  have mA25 := hg25.cell mA24 (fun e => by have := (World.ownsRow.lt ho11 _ e.symm).1; simp at this; omega)
  have mB25 := hg25.cell mB24 (fun e => by have := (World.ownsRow.lt ho11 _ e.symm).1; simp at this; omega)
  clear mA24 mB24
  go_wp2_with fail
  refine (dB (eqInt64S_yes _ _ _ _ (regF J xs0 xs1 xs2 xs3).1 _ _ _ (by omega) (((((((((((((ho12.later hb13).later hb14).later hb15).later hb16).later hb17).later hb18).later hb19).later hb20).later hb21).kept hg22 (apart_rows ho12 ho7 (by omega))).kept hg23 (apart_rows ho12 ho9 (by omega))).kept hg24 (apart_rows ho12 ho10 (by omega))).kept hg25 (apart_rows ho12 ho11 (by omega))).ints (((((((((((((((((((ho6.later hb7).later hb8).later hb9).later hb10).later hb11).later hb12).later hb13).later hb14).later hb15).later hb16).later hb17).later hb18).later hb19).later hb20).later hb21).kept hg22 (apart_rows ho6 ho7 (by omega))).kept hg23 (apart_rows ho6 ho9 (by omega))).kept hg24 (apart_rows ho6 ho10 (by omega))).kept hg25 (apart_rows ho6 ho11 (by omega))).ints)).mono ?_
  rintro e w26 ⟨rfl, hb26⟩
  have sz26 : w25.heap.size ≤ w26.heap.size := hb26.size
  have be26 := be25.trans (hb26.mono be25.size)
  have mA26 := ((bcell hb26).1 _ _ (by omega)).trans mA25
  have mB26 := ((bcell hb26).1 _ _ (by omega)).trans mB25
  clear mA25 mB25
  go_wp2_with fail
  refine (markInt64S_own _ _ _ (regF J xs0 xs1 xs2 xs3).1 1 _ _ (by omega) (by omega) (by omega) rfl ((((((((((((((ho12.later hb13).later hb14).later hb15).later hb16).later hb17).later hb18).later hb19).later hb20).later hb21).kept hg22 (apart_rows ho12 ho7 (by omega))).kept hg23 (apart_rows ho12 ho9 (by omega))).kept hg24 (apart_rows ho12 ho10 (by omega))).kept hg25 (apart_rows ho12 ho11 (by omega))).later hb26)).mono ?_
  rintro e w27 ⟨rfl, hp27, hg27⟩
  have sz27 : w26.heap.size ≤ w27.heap.size := hg27.size
  have be27 : Below w.heap.size w w27 := be26.grown hg27 be26.size (fun g h => by have := (World.ownsRow.lt ho12 g h).1; omega)
  have mA27 := hg27.cell mA26 (fun e => by have := (World.ownsRow.lt ho12 _ e.symm).1; simp at this; omega)
  have mB27 := hg27.cell mB26 (fun e => by have := (World.ownsRow.lt ho12 _ e.symm).1; simp at this; omega)
  clear mA26 mB26
  go_wp2_with fail
  refine (sB (heldInt64S_any _ _ (regF J xs0 xs1 xs2 xs3).1.length 1 _ _ (by omega) (by omega) (by omega) hp27.ints)).mono ?_
  rintro e w28 ⟨rfl, hb28⟩
  have sz28 : w27.heap.size ≤ w28.heap.size := hb28.size
  have be28 := be27.trans (hb28.mono be27.size)
  have mA28 := ((bcell hb28).1 _ _ (by omega)).trans mA27
  have mB28 := ((bcell hb28).1 _ _ (by omega)).trans mB27
  clear mA27 mB27
  go_wp2_with fail
  refine (toMine_any J A0 c0 xs0 w.heap.size _ (by omega) (HI0.out.below be28) be28.size).mono ?_
  rintro e w29 ⟨v29, rfl, ho29, hb29⟩
  have sz29 : w28.heap.size ≤ w29.heap.size := hb29.size
  have be29 := be28.trans (hb29.mono be28.size)
  have mA29 := ((bcell hb29).1 _ _ (by omega)).trans mA28
  have mB29 := ((bcell hb29).1 _ _ (by omega)).trans mB28
  clear mA28 mB28
  obtain ⟨A_29, c_29, rfl, -, -⟩ := ho29.slice encA_len
  go_wp2_with fail
  refine (toInt64S_any A1 c1 xs1 w.heap.size _ (by omega) (HI1.out.below be29) be29.size).mono ?_
  rintro e w30 ⟨rfl, ho30, hb30⟩
  have sz30 : w29.heap.size ≤ w30.heap.size := hb30.size
  have be30 := be29.trans (hb30.mono be29.size)
  have mA30 := ((bcell hb30).1 _ _ (by omega)).trans mA29
  have mB30 := ((bcell hb30).1 _ _ (by omega)).trans mB29
  clear mA29 mB29
  go_wp2_with fail
  refine (toInt64S_any A2 c2 xs2 w.heap.size _ (by omega) (HI2.out.below be30) be30.size).mono ?_
  rintro e w31 ⟨rfl, ho31, hb31⟩
  have sz31 : w30.heap.size ≤ w31.heap.size := hb31.size
  have be31 := be30.trans (hb31.mono be30.size)
  have mA31 := ((bcell hb31).1 _ _ (by omega)).trans mA30
  have mB31 := ((bcell hb31).1 _ _ (by omega)).trans mB30
  clear mA30 mB30
  go_wp2_with fail
  refine (toBoolS_any A3 c3 xs3 w.heap.size _ (by omega) (HI3.out.below be31) be31.size).mono ?_
  rintro e w32 ⟨rfl, ho32, hb32⟩
  have sz32 : w31.heap.size ≤ w32.heap.size := hb32.size
  have be32 := be31.trans (hb32.mono be31.size)
  have mA32 := ((bcell hb32).1 _ _ (by omega)).trans mA31
  have mB32 := ((bcell hb32).1 _ _ (by omega)).trans mB31
  clear mA31 mB31
  go_wp2_with fail
  refine (RegulatorDrops_i J _ _ xs0 _ _ xs1 _ _ xs2 _ _ xs3 _ (by omega) HF0.out ((((ho29.later hb30).later hb31).later hb32).rows encA_len) hn1 ((ho30.later hb31).later hb32).ints HT1.out hn2 (ho31.later hb32).ints HT2.out hn3 ho32.ints).mono ?_
  rintro e w33 ⟨v33, rfl, ho33, hb33⟩
  have sz33 : w32.heap.size ≤ w33.heap.size := hb33.size
  have be33 := be32.trans (hb33.mono be32.size)
  have mA33 := ((bcell hb33).1 _ _ (by omega)).trans mA32
  have mB33 := ((bcell hb33).1 _ _ (by omega)).trans mB32
  clear mA32 mB32
  obtain ⟨A_33, c_33, rfl, -, -⟩ := ho33.slice
  go_wp2_with fail
  refine (dB (eqInt64S_yes _ _ _ _ (regF J xs0 xs1 xs2 xs3).1 _ _ _ (by omega) ho33.ints (((((((((((((((((((((((((((ho6.later hb7).later hb8).later hb9).later hb10).later hb11).later hb12).later hb13).later hb14).later hb15).later hb16).later hb17).later hb18).later hb19).later hb20).later hb21).kept hg22 (apart_rows ho6 ho7 (by omega))).kept hg23 (apart_rows ho6 ho9 (by omega))).kept hg24 (apart_rows ho6 ho10 (by omega))).kept hg25 (apart_rows ho6 ho11 (by omega))).later hb26).kept hg27 (apart_rows ho6 ho12 (by omega))).later hb28).later hb29).later hb30).later hb31).later hb32).later hb33).ints)).mono ?_
  rintro e w34 ⟨rfl, hb34⟩
  have sz34 : w33.heap.size ≤ w34.heap.size := hb34.size
  have be34 := be33.trans (hb34.mono be33.size)
  have mA34 := ((bcell hb34).1 _ _ (by omega)).trans mA33
  have mB34 := ((bcell hb34).1 _ _ (by omega)).trans mB33
  clear mA33 mB33
  go_wp2_with fail
  refine (sB (heldInt64S_any _ _ (regF J xs0 xs1 xs2 xs3).1.length 1 _ _ (by omega) (by omega) (by omega) (((((((hp27.later hb28).later hb29).later hb30).later hb31).later hb32).later hb33).later hb34).ints)).mono ?_
  rintro e w35 ⟨rfl, hb35⟩
  have sz35 : w34.heap.size ≤ w35.heap.size := hb35.size
  have be35 := be34.trans (hb35.mono be34.size)
  have mA35 := ((bcell hb35).1 _ _ (by omega)).trans mA34
  have mB35 := ((bcell hb35).1 _ _ (by omega)).trans mB34
  clear mA34 mB34
  go_wp2_with fail
  go_ret
  exact ⟨rfl, be35⟩
end Go.Proofs.Ytlgagnbnjfneaaa
