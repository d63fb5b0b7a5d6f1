/- The law of the least push: its walk. -/
import Derived.Test.YtlgagnbnjfneaaaLpF
import Derived.Test.YtlgagnbnjfneaaaMineW
namespace Go.Proofs.Ytlgagnbnjfneaaa
open Go.RowKit
open Pl
set_option maxRecDepth 100000 in
set_option maxHeartbeats 3200000 in
theorem fnExactLeastPush_walk {w : World} (J : Int) (A0 : Option Addr) (c0 : Nat) (xs0 : List Aw) (I0 : Recs encA 7 w.heap.size w A0 xs0) (F0 : FitsA xs0) (l0 : xs0.length ≤ maxLen) (A1 : Option Addr) (c1 : Nat) (xs1 : List Int) (I1 : Ints w.heap.size w A1 xs1) (T1 : Fits xs1) (_ : xs1.length ≤ maxLen) (A2 : Option Addr) (c2 : Nat) (xs2 : List Int) (I2 : Ints w.heap.size w A2 xs2) (T2 : Fits xs2) (_ : xs2.length ≤ maxLen) (A3 : Option Addr) (c3 : Nat) (xs3 : List Bool) (I3 : Bools w.heap.size w A3 xs3) (_ : xs3.length ≤ maxLen) (a4 : Int) (b4 : -9223372036854775808 ≤ a4 ∧ a4 ≤ 9223372036854775807) :
    Calls Try.prog 6 #[.agg #[.int .i64 J, .slice A0 xs0.length c0], .slice A1 xs1.length c1, .slice A2 xs2.length c2, .slice A3 xs3.length c3, .int .i64 a4] w fun e w' => e = .returned (.bool true) ∧ Below w.heap.size w w' := by
  by_cases hn1 : (xs1.length : Int) ≤ 1048576
  rotate_left
  · go_enter Try.func6, Try.ntmps6
    go_wp2
    go_ret
    exact ⟨rfl, by go_grown⟩
  by_cases hn2 : (xs2.length : Int) ≤ 1048576
  rotate_left
  · go_enter Try.func6, Try.ntmps6
    go_wp2
    go_ret
    exact ⟨rfl, by go_grown⟩
  by_cases hn3 : (xs3.length : Int) ≤ 1048576
  rotate_left
  · go_enter Try.func6, Try.ntmps6
    go_wp2
    go_ret
    exact ⟨rfl, by go_grown⟩
  have hb0 : Below w.heap.size w (w.alloc (.cells #[.int .i64 J, .slice A0 xs0.length c0] 24)) := by go_grown
  have HI0 := Lib.hid I0
  have HF0 := Lib.hid F0
  have HT1 := Lib.hid T1
  have HI1 := Lib.hid I1
  have HT2 := Lib.hid T2
  have HI2 := Lib.hid I2
  have HI3 := Lib.hid I3
  have HS := Lib.hid (fun (W : World) (hb : Below w.heap.size w W) => szMine_any J A0 c0 xs0 1048576 w.heap.size W (by omega) (by omega) l0 F0 (I0.below hb) hb.size)
  clear I0 F0 T1 I1 T2 I2 I3
  have hor : szA xs0 1048576 < 0 ∨ (0 ≤ szA xs0 1048576 ∧ (xs0.length : Int) ≤ 1048576) := szA_or xs0
  generalize szA xs0 1048576 = q at *
  rcases hor with hq | ⟨hq, hn0⟩
  · go_enter Try.func6, Try.ntmps6
    go_wp2_with fail
    refine (HS.out _ hb0).mono ?_
    rintro e w1 ⟨rfl, hb1⟩
    go_wp2_with fail
    go_ret
    exact ⟨rfl, hb0.trans (hb1.mono hb0.size)⟩
  go_enter Try.func6, Try.ntmps6
  go_wp2_with fail
  refine (HS.out _ hb0).mono ?_
  rintro e w1 ⟨rfl, hb1⟩
  have mA1 : w1.cell? ⟨w.heap.size, 0, none⟩ = some (.int .i64 J) := by rw [(bcell hb1).1 _ _ (by simp)]; go_simp
  have mB1 : w1.cell? ⟨w.heap.size, 1, none⟩ = some (.slice A0 xs0.length c0) := by rw [(bcell hb1).1 _ _ (by simp)]; go_simp
  have be1 := hb0.trans (hb1.mono hb0.size)
  have sz1 : w.heap.size < w1.heap.size := by have := hb1.size; simp at this; omega
  clear hb1
  go_wp2_with fail
  refine (toMine_any J A0 c0 xs0 w.heap.size _ (by omega) (HI0.out.below be1) be1.size).mono ?_
  rintro e w2 ⟨v2, rfl, ho2, hb2⟩
  have sz2 : w1.heap.size ≤ w2.heap.size := hb2.size
  have be2 := be1.trans (hb2.mono be1.size)
  have mA2 := ((bcell hb2).1 _ _ (by omega)).trans mA1
  have mB2 := ((bcell hb2).1 _ _ (by omega)).trans mB1
  clear mA1 mB1
  obtain ⟨A_2, c_2, rfl, -, -⟩ := ho2.slice encA_len
  go_wp2_with fail
  refine (toInt64S_any A1 c1 xs1 w.heap.size _ (by omega) (HI1.out.below be2) be2.size).mono ?_
  rintro e w3 ⟨rfl, ho3, hb3⟩
  have sz3 : w2.heap.size ≤ w3.heap.size := hb3.size
  have be3 := be2.trans (hb3.mono be2.size)
  have mA3 := ((bcell hb3).1 _ _ (by omega)).trans mA2
  have mB3 := ((bcell hb3).1 _ _ (by omega)).trans mB2
  clear mA2 mB2
  go_wp2_with fail
  refine (toInt64S_any A2 c2 xs2 w.heap.size _ (by omega) (HI2.out.below be3) be3.size).mono ?_
  rintro e w4 ⟨rfl, ho4, hb4⟩
  have sz4 : w3.heap.size ≤ w4.heap.size := hb4.size
  have be4 := be3.trans (hb4.mono be3.size)
  have mA4 := ((bcell hb4).1 _ _ (by omega)).trans mA3
  have mB4 := ((bcell hb4).1 _ _ (by omega)).trans mB3
  clear mA3 mB3
  go_wp2_with fail
  refine (toBoolS_any A3 c3 xs3 w.heap.size _ (by omega) (HI3.out.below be4) be4.size).mono ?_
  rintro e w5 ⟨rfl, ho5, hb5⟩
  have sz5 : w4.heap.size ≤ w5.heap.size := hb5.size
  have be5 := be4.trans (hb5.mono be4.size)
  have mA5 := ((bcell hb5).1 _ _ (by omega)).trans mA4
  have mB5 := ((bcell hb5).1 _ _ (by omega)).trans mB4
  clear mA4 mB4
  go_wp2_with fail
  refine (LeastPush_s J _ _ xs0 _ _ xs1 _ _ xs2 _ _ xs3 a4 _ (by omega) HF0.out ((((ho2.later hb3).later hb4).later hb5).rows encA_len) hn1 ((ho3.later hb4).later hb5).ints HT1.out hn2 (ho4.later hb5).ints HT2.out hn3 ho5.ints b4).mono ?_
  rintro e w6 ⟨rfl, hb6⟩
  have sz6 : w5.heap.size ≤ w6.heap.size := hb6.size
  have be6 := be5.trans (hb6.mono be5.size)
  have mA6 := ((bcell hb6).1 _ _ (by omega)).trans mA5
  have mB6 := ((bcell hb6).1 _ _ (by omega)).trans mB5
  clear mA5 mB5
  go_wp2_with fail
  refine (toMine_any J A0 c0 xs0 w.heap.size _ (by omega) (HI0.out.below be6) be6.size).mono ?_
  rintro e w7 ⟨v7, rfl, ho7, hb7⟩
  have sz7 : w6.heap.size ≤ w7.heap.size := hb7.size
  have be7 := be6.trans (hb7.mono be6.size)
  have mA7 := ((bcell hb7).1 _ _ (by omega)).trans mA6
  have mB7 := ((bcell hb7).1 _ _ (by omega)).trans mB6
  clear mA6 mB6
  obtain ⟨A_7, c_7, rfl, -, -⟩ := ho7.slice encA_len
  go_wp2_with fail
  have hb8 : Below w7.heap.size w7 (w7.alloc (.cells #[.int .i64 J, .slice A_7 xs0.length c_7] 31)) := (Below.refl _ _).alloc (Nat.le_refl _) _
  have nA8 : (w7.alloc (.cells #[.int .i64 J, .slice A_7 xs0.length c_7] 31)).cell? ⟨w7.heap.size, 0, none⟩ = some (.int .i64 J) := by go_simp
  have nB8 : (w7.alloc (.cells #[.int .i64 J, .slice A_7 xs0.length c_7] 31)).cell? ⟨w7.heap.size, 1, none⟩ = some (.slice A_7 xs0.length c_7) := by go_simp
  have lt8 : w7.heap.size < (w7.alloc (.cells #[.int .i64 J, .slice A_7 xs0.length c_7] 31)).heap.size := by simp
  generalize (w7.alloc (.cells #[.int .i64 J, .slice A_7 xs0.length c_7] 31)) = w8 at *
  have sz8 : w7.heap.size ≤ w8.heap.size := hb8.size
  have be8 := be7.trans (hb8.mono be7.size)
  have mA8 := ((bcell hb8).1 _ _ (by omega)).trans mA7
  have mB8 := ((bcell hb8).1 _ _ (by omega)).trans mB7
  clear mA7 mB7
  refine (toInt64S_any A1 c1 xs1 w.heap.size _ (by omega) (HI1.out.below be8) be8.size).mono ?_
  rintro e w9 ⟨rfl, ho9, hb9⟩
  have sz9 : w8.heap.size ≤ w9.heap.size := hb9.size
  have be9 := be8.trans (hb9.mono be8.size)
  have mA9 := ((bcell hb9).1 _ _ (by omega)).trans mA8
  have mB9 := ((bcell hb9).1 _ _ (by omega)).trans mB8
  have nA9 := ((bcell hb9).1 _ _ (by omega)).trans nA8
  have nB9 := ((bcell hb9).1 _ _ (by omega)).trans nB8
  clear mA8 mB8 nA8 nB8
  go_wp2_with fail
  refine (toInt64S_any A2 c2 xs2 w.heap.size _ (by omega) (HI2.out.below be9) be9.size).mono ?_
  rintro e w10 ⟨rfl, ho10, hb10⟩
  have sz10 : w9.heap.size ≤ w10.heap.size := hb10.size
  have be10 := be9.trans (hb10.mono be9.size)
  have mA10 := ((bcell hb10).1 _ _ (by omega)).trans mA9
  have mB10 := ((bcell hb10).1 _ _ (by omega)).trans mB9
  have nA10 := ((bcell hb10).1 _ _ (by omega)).trans nA9
  have nB10 := ((bcell hb10).1 _ _ (by omega)).trans nB9
  clear mA9 mB9 nA9 nB9
  go_wp2_with fail
  refine (toBoolS_any A3 c3 xs3 w.heap.size _ (by omega) (HI3.out.below be10) be10.size).mono ?_
  rintro e w11 ⟨rfl, ho11, hb11⟩
  have sz11 : w10.heap.size ≤ w11.heap.size := hb11.size
  have be11 := be10.trans (hb11.mono be10.size)
  have mA11 := ((bcell hb11).1 _ _ (by omega)).trans mA10
  have mB11 := ((bcell hb11).1 _ _ (by omega)).trans mB10
  have nA11 := ((bcell hb11).1 _ _ (by omega)).trans nA10
  have nB11 := ((bcell hb11).1 _ _ (by omega)).trans nB10
  clear mA10 mB10 nA10 nB10
  go_wp2_with fail
  refine (LeastPush_i J _ _ xs0 _ _ xs1 _ _ xs2 _ _ xs3 a4 _ (by omega) HF0.out (((((ho7.later hb8).later hb9).later hb10).later hb11).rows encA_len) hn1 ((ho9.later hb10).later hb11).ints HT1.out hn2 (ho10.later hb11).ints HT2.out hn3 ho11.ints b4).mono ?_
  rintro e w12 ⟨rfl, hb12⟩
  have sz12 : w11.heap.size ≤ w12.heap.size := hb12.size
  have be12 := be11.trans (hb12.mono be11.size)
  have mA12 := ((bcell hb12).1 _ _ (by omega)).trans mA11
  have mB12 := ((bcell hb12).1 _ _ (by omega)).trans mB11
  have nA12 := ((bcell hb12).1 _ _ (by omega)).trans nA11
  have nB12 := ((bcell hb12).1 _ _ (by omega)).trans nB11
  clear mA11 mB11 nA11 nB11
  go_wp2_with fail
  have hox := (((((ho7.later hb8).later hb9).later hb10).later hb11).later hb12)
  have HX := Lib.hid hox
  clear hox
  have HBX := Lib.hid be12
  go_region_held3 (fun w' => (w'.cell? ⟨w.heap.size, 0, none⟩ = some (.int .i64 J) ∧ w'.cell? ⟨w.heap.size, 1, none⟩ = some (.slice A0 xs0.length c0)) ∧ (w'.cell? ⟨w7.heap.size, 0, none⟩ = some (.int .i64 J) ∧ w'.cell? ⟨w7.heap.size, 1, none⟩ = some (.slice A_7 xs0.length c_7)))
    (first
      | go_keep
      | exact ⟨⟨((bcell hb14).1 _ _ (by have := hb13.size; simp at this; omega)).trans (((bcell hb13).1 _ _ (by simp <;> omega)).trans mA12), ((bcell hb14).1 _ _ (by have := hb13.size; simp at this; omega)).trans (((bcell hb13).1 _ _ (by simp <;> omega)).trans mB12)⟩, ((bcell hb14).1 _ _ (by have := hb13.size; simp at this; omega)).trans (((bcell hb13).1 _ _ (by simp <;> omega)).trans nA12), ((bcell hb14).1 _ _ (by have := hb13.size; simp at this; omega)).trans (((bcell hb13).1 _ _ (by simp <;> omega)).trans nB12)⟩
      | exact ⟨⟨((bcell hb13).1 _ _ (by simp <;> omega)).trans mA12, ((bcell hb13).1 _ _ (by simp <;> omega)).trans mB12⟩, ((bcell hb13).1 _ _ (by simp <;> omega)).trans nA12, ((bcell hb13).1 _ _ (by simp <;> omega)).trans nB12⟩)
    (first
      | (go_at_call 12; refine (toMine_any J A0 c0 xs0 w.heap.size _ (by omega) (by first | exact HI0.out.below HBX.out | exact HI0.out.below HBX.out.drew) (by first | exact HBX.out.size | exact HBX.out.drew.size)).mono ?_; rintro e w13 ⟨v13, rfl, ho13, hb13⟩; obtain ⟨A_13, c_13, rfl, -, -⟩ := ho13.slice encA_len)
      | (go_at_call 16; refine (eqMine_yes J _ _ _ _ xs0 _ _ _ (by omega) (by first | exact (HX.out.later hb13).rows encA_len | exact ((HX.out.later (Below.refl _ _).drew).later hb13).rows encA_len) (ho13.rows encA_len) (Nat.le_refl _) (Nat.le_refl _)).mono ?_; rintro e w14 ⟨rfl, hb14⟩))
  have hcx : Below w12.heap.size w12 w13 := ((Below.refl w12.heap.size w12).drew).trans (hb13.mono (by simp))
  clear hb13
  have hb13 := hcx
  clear hcx
  have sz13 : w12.heap.size ≤ w13.heap.size := hb13.size
  have be13 := be12.trans (hb13.mono be12.size)
  have mA13 := ((bcell hb13).1 _ _ (by omega)).trans mA12
  have mB13 := ((bcell hb13).1 _ _ (by omega)).trans mB12
  have nA13 := ((bcell hb13).1 _ _ (by omega)).trans nA12
  have nB13 := ((bcell hb13).1 _ _ (by omega)).trans nB12
  clear mA12 mB12 nA12 nB12
  have sz14 : w13.heap.size ≤ w14.heap.size := hb14.size
  have be14 := be13.trans (hb14.mono be13.size)
  have mA14 := ((bcell hb14).1 _ _ (by omega)).trans mA13
  have mB14 := ((bcell hb14).1 _ _ (by omega)).trans mB13
  have nA14 := ((bcell hb14).1 _ _ (by omega)).trans nA13
  have nB14 := ((bcell hb14).1 _ _ (by omega)).trans nB13
  clear mA13 mB13 nA13 nB13
  go_wp2_with fail
  refine (toInt64S_any A1 c1 xs1 w.heap.size _ (by omega) (HI1.out.below be14) be14.size).mono ?_
  rintro e w15 ⟨rfl, ho15, hb15⟩
  have sz15 : w14.heap.size ≤ w15.heap.size := hb15.size
  have be15 := be14.trans (hb15.mono be14.size)
  have mA15 := ((bcell hb15).1 _ _ (by omega)).trans mA14
  have mB15 := ((bcell hb15).1 _ _ (by omega)).trans mB14
  have nA15 := ((bcell hb15).1 _ _ (by omega)).trans nA14
  have nB15 := ((bcell hb15).1 _ _ (by omega)).trans nB14
  clear mA14 mB14 nA14 nB14
  go_wp2_with fail
  refine (dB (eqInt64S_yes _ _ _ _ xs1 _ _ _ (by omega) ((((((ho9.later hb10).later hb11).later hb12).later hb13).later hb14).later hb15).ints ho15.ints)).mono ?_
  rintro e w16 ⟨rfl, hb16⟩
  have sz16 : w15.heap.size ≤ w16.heap.size := hb16.size
  have be16 := be15.trans (hb16.mono be15.size)
  have mA16 := ((bcell hb16).1 _ _ (by omega)).trans mA15
  have mB16 := ((bcell hb16).1 _ _ (by omega)).trans mB15
  have nA16 := ((bcell hb16).1 _ _ (by omega)).trans nA15
  have nB16 := ((bcell hb16).1 _ _ (by omega)).trans nB15
  clear mA15 mB15 nA15 nB15
  go_wp2_with fail
  refine (toInt64S_any A2 c2 xs2 w.heap.size _ (by omega) (HI2.out.below be16) be16.size).mono ?_
  rintro e w17 ⟨rfl, ho17, hb17⟩
  have sz17 : w16.heap.size ≤ w17.heap.size := hb17.size
  have be17 := be16.trans (hb17.mono be16.size)
  have mA17 := ((bcell hb17).1 _ _ (by omega)).trans mA16
  have mB17 := ((bcell hb17).1 _ _ (by omega)).trans mB16
  have nA17 := ((bcell hb17).1 _ _ (by omega)).trans nA16
  have nB17 := ((bcell hb17).1 _ _ (by omega)).trans nB16
  clear mA16 mB16 nA16 nB16
  go_wp2_with fail
  refine (dB (eqInt64S_yes _ _ _ _ xs2 _ _ _ (by omega) (((((((ho10.later hb11).later hb12).later hb13).later hb14).later hb15).later hb16).later hb17).ints ho17.ints)).mono ?_
  rintro e w18 ⟨rfl, hb18⟩
  have sz18 : w17.heap.size ≤ w18.heap.size := hb18.size
  have be18 := be17.trans (hb18.mono be17.size)
  have mA18 := ((bcell hb18).1 _ _ (by omega)).trans mA17
  have mB18 := ((bcell hb18).1 _ _ (by omega)).trans mB17
  have nA18 := ((bcell hb18).1 _ _ (by omega)).trans nA17
  have nB18 := ((bcell hb18).1 _ _ (by omega)).trans nB17
  clear mA17 mB17 nA17 nB17
  go_wp2_with fail
  refine (toBoolS_any A3 c3 xs3 w.heap.size _ (by omega) (HI3.out.below be18) be18.size).mono ?_
  rintro e w19 ⟨rfl, ho19, hb19⟩
  have sz19 : w18.heap.size ≤ w19.heap.size := hb19.size
  have be19 := be18.trans (hb19.mono be18.size)
  have mA19 := ((bcell hb19).1 _ _ (by omega)).trans mA18
  have mB19 := ((bcell hb19).1 _ _ (by omega)).trans mB18
  have nA19 := ((bcell hb19).1 _ _ (by omega)).trans nA18
  have nB19 := ((bcell hb19).1 _ _ (by omega)).trans nB18
  clear mA18 mB18 nA18 nB18
  go_wp2_with fail
  refine (dB (eqBoolS_yes _ _ _ _ xs3 _ _ _ (by omega) ((((((((ho11.later hb12).later hb13).later hb14).later hb15).later hb16).later hb17).later hb18).later hb19).ints ho19.ints)).mono ?_
  rintro e w20 ⟨rfl, hb20⟩
  have sz20 : w19.heap.size ≤ w20.heap.size := hb20.size
  have be20 := be19.trans (hb20.mono be19.size)
  have mA20 := ((bcell hb20).1 _ _ (by omega)).trans mA19
  have mB20 := ((bcell hb20).1 _ _ (by omega)).trans mB19
  have nA20 := ((bcell hb20).1 _ _ (by omega)).trans nA19
  have nB20 := ((bcell hb20).1 _ _ (by omega)).trans nB19
  clear mA19 mB19 nA19 nB19
  go_wp2_with fail
  go_ret
  exact ⟨rfl, be20⟩
end Go.Proofs.Ytlgagnbnjfneaaa
