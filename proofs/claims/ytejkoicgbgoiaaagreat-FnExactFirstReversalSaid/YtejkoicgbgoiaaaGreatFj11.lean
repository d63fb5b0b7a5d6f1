/- Proved here: the parts FirL of the row's proof, joined by a program. Conditions: as each part says. -/
import Derived.Test.YtejkoicgbgoiaaaGreatFj10
/- The law FnExactFirstReversal: its walk. Conditions: the facts on memory and on lengths that the theorem names. Printed by gen_great.py. -/
namespace Go.Proofs.YtejkoicgbgoiaaaGreat
open Go.RowKit
open Pl
theorem szA_or2 (xs0 : List Aw) : szA xs0 1048576 < 0 ∨ (0 ≤ szA xs0 1048576 ∧ szA xs0 1048576 ≤ 1048576 ∧ (xs0.length : Int) ≤ 1048576) := by
  have := idLen_nonneg xs0 xs0.length
  unfold szA
  split <;> omega
set_option maxRecDepth 100000 in
set_option maxHeartbeats 6400000 in
theorem fnExactFirstReversal_walk {w : World} (J : Int) (A0 : Option Addr) (c0 : Nat) (xs0 : List Aw) (I0 : Recs encA 7 w.heap.size w A0 xs0) (F0 : FitsA xs0) (l0 : xs0.length ≤ maxLen) (A1 : Option Addr) (c1 : Nat) (rs : List Int) (I1 : Ints w.heap.size w A1 rs) (T1 : Fits rs) (_ : rs.length ≤ maxLen) (A2 : Option Addr) (c2 : Nat) (fs : List Fa) (I2 : Fns w.heap.size w A2 fs) (F2 : FitsF fs) (l2 : fs.length ≤ maxLen) (A3 : Option Addr) (c3 : Nat) (dr : List Int) (I3 : Ints w.heap.size w A3 dr) (T3 : Fits dr) (_ : dr.length ≤ maxLen) (A4 : Option Addr) (c4 : Nat) (st : List Int) (I4 : Ints w.heap.size w A4 st) (T4 : Fits st) (_ : st.length ≤ maxLen) (tol : Int) (_ : -9223372036854775808 ≤ tol ∧ tol ≤ 9223372036854775807) (rds : Int) (_ : -9223372036854775808 ≤ rds ∧ rds ≤ 9223372036854775807) (aw : Int) (_ : -9223372036854775808 ≤ aw ∧ aw ≤ 9223372036854775807) (sp : Int) (_ : -9223372036854775808 ≤ sp ∧ sp ≤ 9223372036854775807) (ct : Int) (_ : -9223372036854775808 ≤ ct ∧ ct ≤ 9223372036854775807) :
    Calls Tryz.prog 3 #[.agg #[.int .i64 J, .slice A0 xs0.length c0], .slice A1 rs.length c1, .slice A2 fs.length c2, .slice A3 dr.length c3, .slice A4 st.length c4, .int .i64 tol, .int .i64 rds, .int .i64 aw, .int .i64 sp, .int .i64 ct] w fun e w' => e = .returned (.bool true) ∧ Below w.heap.size w w' := by
  by_cases hn1 : (rs.length : Int) ≤ 1048576
  rotate_left
  · go_enter Tryz.func3, Tryz.ntmps3
    go_wp2
    go_ret
    exact ⟨rfl, by go_grown⟩
  by_cases hn3 : (dr.length : Int) ≤ 1048576
  rotate_left
  · go_enter Tryz.func3, Tryz.ntmps3
    go_wp2
    go_ret
    exact ⟨rfl, by go_grown⟩
  by_cases hn4 : (st.length : Int) ≤ 1048576
  rotate_left
  · go_enter Tryz.func3, Tryz.ntmps3
    go_wp2
    go_ret
    exact ⟨rfl, by go_grown⟩
  have hb0 : Below w.heap.size w (w.alloc (.cells #[.int .i64 J, .slice A0 xs0.length c0] 24)) := by go_grown
  have HI0 := Lib.hid I0
  have HF0 := Lib.hid F0
  have HI2 := Lib.hid I2
  have HF2 := Lib.hid F2
  have HT1 := Lib.hid T1
  have HI1 := Lib.hid I1
  have HT3 := Lib.hid T3
  have HI3 := Lib.hid I3
  have HT4 := Lib.hid T4
  have HI4 := Lib.hid I4
  obtain ⟨R, hRR⟩ : ∃ R, R = firsF J xs0 rs fs dr st tol rds aw sp ct := ⟨_, rfl⟩
  have HRR := Lib.hid hRR
  clear hRR
  have HS := Lib.hid (fun (W : World) (hb : Below w.heap.size w W) => szMine_any J A0 c0 xs0 1048576 w.heap.size W (by omega) (by omega) l0 F0 (I0.below hb) hb.size)
  have HZ := Lib.hid (fun (q : Int) (h1 : 0 ≤ q) (h2 : q ≤ 1048576) (W : World) (hb : Below w.heap.size w W) => szFanS_any A2 c2 fs q w.heap.size W h1 h2 l2 F2 (I2.below hb) hb.size)
  have hor2 : ∀ q : Int, 0 ≤ q → q ≤ 1048576 → szF fs q = -1 ∨ (0 ≤ szF fs q ∧ szF fs q ≤ q ∧ (fs.length : Int) ≤ 1048576 ∧ FansLen fs) := fun q h0 h1 => szF_or fs q h1 h0
  clear I0 F0 I1 T1 I2 F2 I3 T3 I4 T4
  have hor := szA_or2 xs0
  generalize szA xs0 1048576 = q at *
  rcases hor with hq | ⟨hq, hqq, hn0⟩
  · go_enter Tryz.func3, Tryz.ntmps3
    go_wp2_with fail
    refine (HS.out _ hb0).mono ?_
    rintro e w1 ⟨rfl, hb1⟩
    go_wp2_with fail
    go_ret
    exact ⟨rfl, hb0.trans (hb1.mono hb0.size)⟩
  have hor3 := hor2 q hq hqq
  clear hor2
  go_enter Tryz.func3, Tryz.ntmps3
  go_wp2_with fail
  refine (HS.out _ hb0).mono ?_
  rintro e w1 ⟨rfl, hb1⟩
  have mA1 : w1.cell? ⟨w.heap.size, 0, none⟩ = some (.int .i64 J) := by rw [(bcell hb1).1 _ _ (by simp)]; go_simp
  have mB1 : w1.cell? ⟨w.heap.size, 1, none⟩ = some (.slice A0 xs0.length c0) := by rw [(bcell hb1).1 _ _ (by simp)]; go_simp
  have be1 := hb0.trans (hb1.mono hb0.size)
  have sz1 : w.heap.size < w1.heap.size := by have := hb1.size; simp at this; omega
  clear hb1
  go_wp2_with fail
  have CZ := HZ.out q hq hqq _ be1
  generalize szF fs q = q2 at *
  refine CZ.mono ?_
  clear CZ
  rintro e w2 ⟨rfl, hb2⟩
  have sz2 : w1.heap.size ≤ w2.heap.size := hb2.size
  have be2 := be1.trans (hb2.mono be1.size)
  have mA2 := ((bcell hb2).1 _ _ (by omega)).trans mA1
  have mB2 := ((bcell hb2).1 _ _ (by omega)).trans mB1
  clear mA1 mB1
  clear hb2
  rcases hor3 with rfl | ⟨hq2, hq2q, hnf, lF⟩
  · go_wp2_with fail
    go_ret
    exact ⟨rfl, be2⟩
  go_wp2_with fail
  refine (toMine_any J A0 c0 xs0 w.heap.size _ (by omega) (HI0.out.below be2) be2.size).mono ?_
  rintro e w3 ⟨v3, rfl, ho3, hb3⟩
  have sz3 : w2.heap.size ≤ w3.heap.size := hb3.size
  have be3 := be2.trans (hb3.mono be2.size)
  have mA3 := ((bcell hb3).1 _ _ (by omega)).trans mA2
  have mB3 := ((bcell hb3).1 _ _ (by omega)).trans mB2
  clear mA2 mB2
  clear hb3
  obtain ⟨A_3, c_3, rfl, -, -⟩ := ho3.slice encA_len
  have rs0_3 := Lib.hid (ho3)
  clear ho3
  go_wp2_with fail
  refine (toInt64S_any A1 c1 rs w.heap.size _ (by omega) (HI1.out.below be3) be3.size).mono ?_
  rintro e w4 ⟨rfl, ho4, hb4⟩
  have sz4 : w3.heap.size ≤ w4.heap.size := hb4.size
  have be4 := be3.trans (hb4.mono be3.size)
  have mA4 := ((bcell hb4).1 _ _ (by omega)).trans mA3
  have mB4 := ((bcell hb4).1 _ _ (by omega)).trans mB3
  clear mA3 mB3
  have rs0_4 := Lib.hid (rs0_3.out.later hb4)
  clear rs0_3
  clear hb4
  have rs1_4 := Lib.hid (ho4)
  clear ho4
  go_wp2_with fail
  refine (toFanS_low A2 c2 fs w.heap.size _ (by omega) lF (HI2.out.below be4) be4.size).mono ?_
  rintro e w5 ⟨rfl, ho5, hb5⟩
  have sz5 : w4.heap.size ≤ w5.heap.size := hb5.size
  have be5 := be4.trans (hb5.mono be4.size)
  have mA5 := ((bcell hb5).1 _ _ (by omega)).trans mA4
  have mB5 := ((bcell hb5).1 _ _ (by omega)).trans mB4
  clear mA4 mB4
  have rs0_5 := Lib.hid (rs0_4.out.later hb5)
  clear rs0_4
  have rs1_5 := Lib.hid (rs1_4.out.later hb5)
  clear rs1_4
  clear hb5
  have rs2_5 := Lib.hid (ho5.fns)
  clear ho5
  go_wp2_with fail
  refine (toInt64S_any A3 c3 dr w.heap.size _ (by omega) (HI3.out.below be5) be5.size).mono ?_
  rintro e w6 ⟨rfl, ho6, hb6⟩
  have sz6 : w5.heap.size ≤ w6.heap.size := hb6.size
  have be6 := be5.trans (hb6.mono be5.size)
  have mA6 := ((bcell hb6).1 _ _ (by omega)).trans mA5
  have mB6 := ((bcell hb6).1 _ _ (by omega)).trans mB5
  clear mA5 mB5
  have rs0_6 := Lib.hid (rs0_5.out.later hb6)
  clear rs0_5
  have rs1_6 := Lib.hid (rs1_5.out.later hb6)
  clear rs1_5
  have rs2_6 := Lib.hid (rs2_5.out.later hb6)
  clear rs2_5
  clear hb6
  have rs3_6 := Lib.hid (ho6)
  clear ho6
  go_wp2_with fail
  refine (toInt64S_any A4 c4 st w.heap.size _ (by omega) (HI4.out.below be6) be6.size).mono ?_
  rintro e w7 ⟨rfl, ho7, hb7⟩
  have sz7 : w6.heap.size ≤ w7.heap.size := hb7.size
  have be7 := be6.trans (hb7.mono be6.size)
  have mA7 := ((bcell hb7).1 _ _ (by omega)).trans mA6
  have mB7 := ((bcell hb7).1 _ _ (by omega)).trans mB6
  clear mA6 mB6
  have rs0_7 := Lib.hid (rs0_6.out.later hb7)
  clear rs0_6
  have rs1_7 := Lib.hid (rs1_6.out.later hb7)
  clear rs1_6
  have rs2_7 := Lib.hid (rs2_6.out.later hb7)
  clear rs2_6
  have rs3_7 := Lib.hid (rs3_6.out.later hb7)
  clear rs3_6
  clear hb7
  have rs4_7 := Lib.hid (ho7)
  clear ho7
  go_wp2_with fail
  have CC8 := FirstReversal_s J _ c_3 xs0 _ rs.length rs _ fs.length fs _ dr.length dr _ st.length st tol rds aw sp ct _ (by omega) (by omega) (by omega) (by omega) (by omega) HF0.out HF2.out lF (rs0_7.out.rows encA_len) rs1_7.out.ints rs2_7.out rs3_7.out.ints rs4_7.out.ints
  rw [← HRR.out] at CC8
  refine CC8.mono ?_
  clear CC8
  rintro e w8 ⟨rfl, hb8⟩
  have sz8 : w7.heap.size ≤ w8.heap.size := hb8.size
  have be8 := be7.trans (hb8.mono be7.size)
  have mA8 := ((bcell hb8).1 _ _ (by omega)).trans mA7
  have mB8 := ((bcell hb8).1 _ _ (by omega)).trans mB7
  clear mA7 mB7
  have rs0_8 := Lib.hid (rs0_7.out.later hb8)
  clear rs0_7
  have rs1_8 := Lib.hid (rs1_7.out.later hb8)
  clear rs1_7
  have rs2_8 := Lib.hid (rs2_7.out.later hb8)
  clear rs2_7
  have rs3_8 := Lib.hid (rs3_7.out.later hb8)
  clear rs3_7
  have rs4_8 := Lib.hid (rs4_7.out.later hb8)
  clear rs4_7
  clear hb8
  clear rs0_8 rs1_8 rs2_8 rs3_8 rs4_8
  go_wp2_with fail
  refine (toMine_any J A0 c0 xs0 w.heap.size _ (by omega) (HI0.out.below be8) be8.size).mono ?_
  rintro e w9 ⟨v9, rfl, ho9, hb9⟩
  have sz9 : w8.heap.size ≤ w9.heap.size := hb9.size
  have be9 := be8.trans (hb9.mono be8.size)
  have mA9 := ((bcell hb9).1 _ _ (by omega)).trans mA8
  have mB9 := ((bcell hb9).1 _ _ (by omega)).trans mB8
  clear mA8 mB8
  clear hb9
  obtain ⟨A_9, c_9, rfl, -, -⟩ := ho9.slice encA_len
  have rx0_9 := Lib.hid (ho9)
  clear ho9
  go_wp2_with fail
  have hb10 : Below w9.heap.size w9 (w9.alloc (.cells #[.int .i64 J, .slice A_9 xs0.length c_9] 33)) := (Below.refl _ _).alloc (Nat.le_refl _) _
  have nA10 : (w9.alloc (.cells #[.int .i64 J, .slice A_9 xs0.length c_9] 33)).cell? ⟨w9.heap.size, 0, none⟩ = some (.int .i64 J) := by go_simp
  have nB10 : (w9.alloc (.cells #[.int .i64 J, .slice A_9 xs0.length c_9] 33)).cell? ⟨w9.heap.size, 1, none⟩ = some (.slice A_9 xs0.length c_9) := by go_simp
  have lt10 : w9.heap.size < (w9.alloc (.cells #[.int .i64 J, .slice A_9 xs0.length c_9] 33)).heap.size := by simp
  generalize (w9.alloc (.cells #[.int .i64 J, .slice A_9 xs0.length c_9] 33)) = w10 at *
  have sz10 : w9.heap.size ≤ w10.heap.size := hb10.size
  have be10 := be9.trans (hb10.mono be9.size)
  have mA10 := ((bcell hb10).1 _ _ (by omega)).trans mA9
  have mB10 := ((bcell hb10).1 _ _ (by omega)).trans mB9
  clear mA9 mB9
  have rx0_10 := Lib.hid (rx0_9.out.later hb10)
  clear rx0_9
  clear hb10
  refine (toInt64S_any A1 c1 rs w.heap.size _ (by omega) (HI1.out.below be10) be10.size).mono ?_
  rintro e w11 ⟨rfl, ho11, hb11⟩
  have sz11 : w10.heap.size ≤ w11.heap.size := hb11.size
  have be11 := be10.trans (hb11.mono be10.size)
  have mA11 := ((bcell hb11).1 _ _ (by omega)).trans mA10
  have mB11 := ((bcell hb11).1 _ _ (by omega)).trans mB10
  have nA11 := ((bcell hb11).1 _ _ (by omega)).trans nA10
  have nB11 := ((bcell hb11).1 _ _ (by omega)).trans nB10
  clear mA10 mB10 nA10 nB10
  have rx0_11 := Lib.hid (rx0_10.out.later hb11)
  clear rx0_10
  clear hb11
  have rx1_11 := Lib.hid (ho11)
  clear ho11
  go_wp2_with fail
  refine (toFanS_low A2 c2 fs w.heap.size _ (by omega) lF (HI2.out.below be11) be11.size).mono ?_
  rintro e w12 ⟨rfl, ho12, hb12⟩
  have sz12 : w11.heap.size ≤ w12.heap.size := hb12.size
  have be12 := be11.trans (hb12.mono be11.size)
  have mA12 := ((bcell hb12).1 _ _ (by omega)).trans mA11
  have mB12 := ((bcell hb12).1 _ _ (by omega)).trans mB11
  have nA12 := ((bcell hb12).1 _ _ (by omega)).trans nA11
  have nB12 := ((bcell hb12).1 _ _ (by omega)).trans nB11
  clear mA11 mB11 nA11 nB11
  have rx0_12 := Lib.hid (rx0_11.out.later hb12)
  clear rx0_11
  have rx1_12 := Lib.hid (rx1_11.out.later hb12)
  clear rx1_11
  clear hb12
  have rx2_12 := Lib.hid (ho12.fns)
  clear ho12
  go_wp2_with fail
  refine (toInt64S_any A3 c3 dr w.heap.size _ (by omega) (HI3.out.below be12) be12.size).mono ?_
  rintro e w13 ⟨rfl, ho13, hb13⟩
  have sz13 : w12.heap.size ≤ w13.heap.size := hb13.size
  have be13 := be12.trans (hb13.mono be12.size)
  have mA13 := ((bcell hb13).1 _ _ (by omega)).trans mA12
  have mB13 := ((bcell hb13).1 _ _ (by omega)).trans mB12
  have nA13 := ((bcell hb13).1 _ _ (by omega)).trans nA12
  have nB13 := ((bcell hb13).1 _ _ (by omega)).trans nB12
  clear mA12 mB12 nA12 nB12
  have rx0_13 := Lib.hid (rx0_12.out.later hb13)
  clear rx0_12
  have rx1_13 := Lib.hid (rx1_12.out.later hb13)
  clear rx1_12
  have rx2_13 := Lib.hid (rx2_12.out.later hb13)
  clear rx2_12
  clear hb13
  have rx3_13 := Lib.hid (ho13)
  clear ho13
  go_wp2_with fail
  refine (toInt64S_any A4 c4 st w.heap.size _ (by omega) (HI4.out.below be13) be13.size).mono ?_
  rintro e w14 ⟨rfl, ho14, hb14⟩
  have sz14 : w13.heap.size ≤ w14.heap.size := hb14.size
  have be14 := be13.trans (hb14.mono be13.size)
  have mA14 := ((bcell hb14).1 _ _ (by omega)).trans mA13
  have mB14 := ((bcell hb14).1 _ _ (by omega)).trans mB13
  have nA14 := ((bcell hb14).1 _ _ (by omega)).trans nA13
  have nB14 := ((bcell hb14).1 _ _ (by omega)).trans nB13
  clear mA13 mB13 nA13 nB13
  have rx0_14 := Lib.hid (rx0_13.out.later hb14)
  clear rx0_13
  have rx1_14 := Lib.hid (rx1_13.out.later hb14)
  clear rx1_13
  have rx2_14 := Lib.hid (rx2_13.out.later hb14)
  clear rx2_13
  have rx3_14 := Lib.hid (rx3_13.out.later hb14)
  clear rx3_13
  clear hb14
  have rx4_14 := Lib.hid (ho14)
  clear ho14
  go_wp2_with fail
  have CC15 := FirstReversal_i J _ c_9 xs0 _ rs.length rs _ fs.length fs _ dr.length dr _ st.length st tol rds aw sp ct _ (by omega) (by omega) (by omega) (by omega) (by omega) HF0.out HT1.out HF2.out lF HT3.out HT4.out (rx0_14.out.rows encA_len) rx1_14.out.ints rx2_14.out rx3_14.out.ints rx4_14.out.ints
  rw [← HRR.out] at CC15
  refine CC15.mono ?_
  clear CC15
  rintro e w15 ⟨rfl, hb15⟩
  have sz15 : w14.heap.size ≤ w15.heap.size := hb15.size
  have be15 := be14.trans (hb15.mono be14.size)
  have mA15 := ((bcell hb15).1 _ _ (by omega)).trans mA14
  have mB15 := ((bcell hb15).1 _ _ (by omega)).trans mB14
  have nA15 := ((bcell hb15).1 _ _ (by omega)).trans nA14
  have nB15 := ((bcell hb15).1 _ _ (by omega)).trans nB14
  clear mA14 mB14 nA14 nB14
  have rx0_15 := Lib.hid (rx0_14.out.later hb15)
  clear rx0_14
  have rx1_15 := Lib.hid (rx1_14.out.later hb15)
  clear rx1_14
  have rx2_15 := Lib.hid (rx2_14.out.later hb15)
  clear rx2_14
  have rx3_15 := Lib.hid (rx3_14.out.later hb15)
  clear rx3_14
  have rx4_15 := Lib.hid (rx4_14.out.later hb15)
  clear rx4_14
  clear hb15
  go_wp2_with fail
  have HBX := Lib.hid be15
  go_region_held3 (fun w' => (w'.cell? ⟨w.heap.size, 0, none⟩ = some (.int .i64 J) ∧ w'.cell? ⟨w.heap.size, 1, none⟩ = some (.slice A0 xs0.length c0)) ∧ (w'.cell? ⟨w9.heap.size, 0, none⟩ = some (.int .i64 J) ∧ w'.cell? ⟨w9.heap.size, 1, none⟩ = some (.slice A_9 xs0.length c_9)))
    (first
      | go_keep
      | exact ⟨⟨((bcell hb17).1 _ _ (by have := hb16.size; simp at this; omega)).trans (((bcell hb16).1 _ _ (by simp <;> omega)).trans mA15), ((bcell hb17).1 _ _ (by have := hb16.size; simp at this; omega)).trans (((bcell hb16).1 _ _ (by simp <;> omega)).trans mB15)⟩, ((bcell hb17).1 _ _ (by have := hb16.size; simp at this; omega)).trans (((bcell hb16).1 _ _ (by simp <;> omega)).trans nA15), ((bcell hb17).1 _ _ (by have := hb16.size; simp at this; omega)).trans (((bcell hb16).1 _ _ (by simp <;> omega)).trans nB15)⟩
      | exact ⟨⟨((bcell hb16).1 _ _ (by simp <;> omega)).trans mA15, ((bcell hb16).1 _ _ (by simp <;> omega)).trans mB15⟩, ((bcell hb16).1 _ _ (by simp <;> omega)).trans nA15, ((bcell hb16).1 _ _ (by simp <;> omega)).trans nB15⟩)
    (first
      | (go_at_call 10; refine (toMine_any J A0 c0 xs0 w.heap.size _ (by omega) (by first | exact HI0.out.below HBX.out | exact HI0.out.below HBX.out.drew) (by first | exact HBX.out.size | exact HBX.out.drew.size)).mono ?_; rintro e w16 ⟨v16, rfl, ho16, hb16⟩; obtain ⟨A_16, c_16, rfl, -, -⟩ := ho16.slice encA_len)
      | (go_at_call 14; refine (eqMine_yes J _ _ _ _ xs0 _ _ _ (by omega) (by first | exact (rx0_15.out.later hb16).rows encA_len | exact ((rx0_15.out.later (Below.refl _ _).drew).later hb16).rows encA_len) (ho16.rows encA_len) (Nat.le_refl _) (Nat.le_refl _)).mono ?_; rintro e w17 ⟨rfl, hb17⟩))
  have hcx : Below w15.heap.size w15 w16 := ((Below.refl w15.heap.size w15).drew).trans (hb16.mono (by simp))
  clear hb16
  have hb16 := hcx
  clear hcx ho16
  have sz16 : w15.heap.size ≤ w16.heap.size := hb16.size
  have be16 := be15.trans (hb16.mono be15.size)
  have mA16 := ((bcell hb16).1 _ _ (by omega)).trans mA15
  have mB16 := ((bcell hb16).1 _ _ (by omega)).trans mB15
  have nA16 := ((bcell hb16).1 _ _ (by omega)).trans nA15
  have nB16 := ((bcell hb16).1 _ _ (by omega)).trans nB15
  clear mA15 mB15 nA15 nB15
  have rx0_16 := Lib.hid (rx0_15.out.later hb16)
  clear rx0_15
  have rx1_16 := Lib.hid (rx1_15.out.later hb16)
  clear rx1_15
  have rx2_16 := Lib.hid (rx2_15.out.later hb16)
  clear rx2_15
  have rx3_16 := Lib.hid (rx3_15.out.later hb16)
  clear rx3_15
  have rx4_16 := Lib.hid (rx4_15.out.later hb16)
  clear rx4_15
  clear hb16
  have sz17 : w16.heap.size ≤ w17.heap.size := hb17.size
  have be17 := be16.trans (hb17.mono be16.size)
  have mA17 := ((bcell hb17).1 _ _ (by omega)).trans mA16
  have mB17 := ((bcell hb17).1 _ _ (by omega)).trans mB16
  have nA17 := ((bcell hb17).1 _ _ (by omega)).trans nA16
  have nB17 := ((bcell hb17).1 _ _ (by omega)).trans nB16
  clear mA16 mB16 nA16 nB16
  have rx0_17 := Lib.hid (rx0_16.out.later hb17)
  clear rx0_16
  have rx1_17 := Lib.hid (rx1_16.out.later hb17)
  clear rx1_16
  have rx2_17 := Lib.hid (rx2_16.out.later hb17)
  clear rx2_16
  have rx3_17 := Lib.hid (rx3_16.out.later hb17)
  clear rx3_16
  have rx4_17 := Lib.hid (rx4_16.out.later hb17)
  clear rx4_16
  clear hb17
  go_wp2_with fail
  refine (toInt64S_any A1 c1 rs w.heap.size _ (by omega) (HI1.out.below be17) be17.size).mono ?_
  rintro e w18 ⟨rfl, ho18, hb18⟩
  have sz18 : w17.heap.size ≤ w18.heap.size := hb18.size
  have be18 := be17.trans (hb18.mono be17.size)
  have mA18 := ((bcell hb18).1 _ _ (by omega)).trans mA17
  have mB18 := ((bcell hb18).1 _ _ (by omega)).trans mB17
  have nA18 := ((bcell hb18).1 _ _ (by omega)).trans nA17
  have nB18 := ((bcell hb18).1 _ _ (by omega)).trans nB17
  clear mA17 mB17 nA17 nB17
  have rx0_18 := Lib.hid (rx0_17.out.later hb18)
  clear rx0_17
  have rx1_18 := Lib.hid (rx1_17.out.later hb18)
  clear rx1_17
  have rx2_18 := Lib.hid (rx2_17.out.later hb18)
  clear rx2_17
  have rx3_18 := Lib.hid (rx3_17.out.later hb18)
  clear rx3_17
  have rx4_18 := Lib.hid (rx4_17.out.later hb18)
  clear rx4_17
  clear hb18
  have ry_18 := Lib.hid (ho18)
  clear ho18
  go_wp2_with fail
  refine (dB (eqInt64S_yes _ _ _ _ rs _ _ _ (by omega) rx1_18.out.ints ry_18.out.ints)).mono ?_
  rintro e w19 ⟨rfl, hb19⟩
  have sz19 : w18.heap.size ≤ w19.heap.size := hb19.size
  have be19 := be18.trans (hb19.mono be18.size)
  have mA19 := ((bcell hb19).1 _ _ (by omega)).trans mA18
  have mB19 := ((bcell hb19).1 _ _ (by omega)).trans mB18
  have nA19 := ((bcell hb19).1 _ _ (by omega)).trans nA18
  have nB19 := ((bcell hb19).1 _ _ (by omega)).trans nB18
  clear mA18 mB18 nA18 nB18
  have rx0_19 := Lib.hid (rx0_18.out.later hb19)
  clear rx0_18
  have rx1_19 := Lib.hid (rx1_18.out.later hb19)
  clear rx1_18
  have rx2_19 := Lib.hid (rx2_18.out.later hb19)
  clear rx2_18
  have rx3_19 := Lib.hid (rx3_18.out.later hb19)
  clear rx3_18
  have rx4_19 := Lib.hid (rx4_18.out.later hb19)
  clear rx4_18
  have ry_19 := Lib.hid (ry_18.out.later hb19)
  clear ry_18
  clear hb19
  clear ry_19
  go_wp2_with fail
  refine (toFanS_low A2 c2 fs w.heap.size _ (by omega) lF (HI2.out.below be19) be19.size).mono ?_
  rintro e w20 ⟨rfl, ho20, hb20⟩
  have sz20 : w19.heap.size ≤ w20.heap.size := hb20.size
  have be20 := be19.trans (hb20.mono be19.size)
  have mA20 := ((bcell hb20).1 _ _ (by omega)).trans mA19
  have mB20 := ((bcell hb20).1 _ _ (by omega)).trans mB19
  have nA20 := ((bcell hb20).1 _ _ (by omega)).trans nA19
  have nB20 := ((bcell hb20).1 _ _ (by omega)).trans nB19
  clear mA19 mB19 nA19 nB19
  have rx0_20 := Lib.hid (rx0_19.out.later hb20)
  clear rx0_19
  have rx1_20 := Lib.hid (rx1_19.out.later hb20)
  clear rx1_19
  have rx2_20 := Lib.hid (rx2_19.out.later hb20)
  clear rx2_19
  have rx3_20 := Lib.hid (rx3_19.out.later hb20)
  clear rx3_19
  have rx4_20 := Lib.hid (rx4_19.out.later hb20)
  clear rx4_19
  clear hb20
  have ry_20 := Lib.hid (ho20.fns)
  clear ho20
  go_wp2_with fail
  refine (eqFanS_yes _ _ _ _ fs _ _ _ (by omega) lF rx2_20.out ry_20.out (Nat.le_refl _) (Nat.le_refl _)).mono ?_
  rintro e w21 ⟨rfl, hb21⟩
  have sz21 : w20.heap.size ≤ w21.heap.size := hb21.size
  have be21 := be20.trans (hb21.mono be20.size)
  have mA21 := ((bcell hb21).1 _ _ (by omega)).trans mA20
  have mB21 := ((bcell hb21).1 _ _ (by omega)).trans mB20
  have nA21 := ((bcell hb21).1 _ _ (by omega)).trans nA20
  have nB21 := ((bcell hb21).1 _ _ (by omega)).trans nB20
  clear mA20 mB20 nA20 nB20
  have rx0_21 := Lib.hid (rx0_20.out.later hb21)
  clear rx0_20
  have rx1_21 := Lib.hid (rx1_20.out.later hb21)
  clear rx1_20
  have rx2_21 := Lib.hid (rx2_20.out.later hb21)
  clear rx2_20
  have rx3_21 := Lib.hid (rx3_20.out.later hb21)
  clear rx3_20
  have rx4_21 := Lib.hid (rx4_20.out.later hb21)
  clear rx4_20
  have ry_21 := Lib.hid (ry_20.out.later hb21)
  clear ry_20
  clear hb21
  clear ry_21
  go_wp2_with fail
  refine (toInt64S_any A3 c3 dr w.heap.size _ (by omega) (HI3.out.below be21) be21.size).mono ?_
  rintro e w22 ⟨rfl, ho22, hb22⟩
  have sz22 : w21.heap.size ≤ w22.heap.size := hb22.size
  have be22 := be21.trans (hb22.mono be21.size)
  have mA22 := ((bcell hb22).1 _ _ (by omega)).trans mA21
  have mB22 := ((bcell hb22).1 _ _ (by omega)).trans mB21
  have nA22 := ((bcell hb22).1 _ _ (by omega)).trans nA21
  have nB22 := ((bcell hb22).1 _ _ (by omega)).trans nB21
  clear mA21 mB21 nA21 nB21
  have rx0_22 := Lib.hid (rx0_21.out.later hb22)
  clear rx0_21
  have rx1_22 := Lib.hid (rx1_21.out.later hb22)
  clear rx1_21
  have rx2_22 := Lib.hid (rx2_21.out.later hb22)
  clear rx2_21
  have rx3_22 := Lib.hid (rx3_21.out.later hb22)
  clear rx3_21
  have rx4_22 := Lib.hid (rx4_21.out.later hb22)
  clear rx4_21
  clear hb22
  have ry_22 := Lib.hid (ho22)
  clear ho22
  go_wp2_with fail
  refine (dB (eqInt64S_yes _ _ _ _ dr _ _ _ (by omega) rx3_22.out.ints ry_22.out.ints)).mono ?_
  rintro e w23 ⟨rfl, hb23⟩
  have sz23 : w22.heap.size ≤ w23.heap.size := hb23.size
  have be23 := be22.trans (hb23.mono be22.size)
  have mA23 := ((bcell hb23).1 _ _ (by omega)).trans mA22
  have mB23 := ((bcell hb23).1 _ _ (by omega)).trans mB22
  have nA23 := ((bcell hb23).1 _ _ (by omega)).trans nA22
  have nB23 := ((bcell hb23).1 _ _ (by omega)).trans nB22
  clear mA22 mB22 nA22 nB22
  have rx0_23 := Lib.hid (rx0_22.out.later hb23)
  clear rx0_22
  have rx1_23 := Lib.hid (rx1_22.out.later hb23)
  clear rx1_22
  have rx2_23 := Lib.hid (rx2_22.out.later hb23)
  clear rx2_22
  have rx3_23 := Lib.hid (rx3_22.out.later hb23)
  clear rx3_22
  have rx4_23 := Lib.hid (rx4_22.out.later hb23)
  clear rx4_22
  have ry_23 := Lib.hid (ry_22.out.later hb23)
  clear ry_22
  clear hb23
  clear ry_23
  go_wp2_with fail
  refine (toInt64S_any A4 c4 st w.heap.size _ (by omega) (HI4.out.below be23) be23.size).mono ?_
  rintro e w24 ⟨rfl, ho24, hb24⟩
  have sz24 : w23.heap.size ≤ w24.heap.size := hb24.size
  have be24 := be23.trans (hb24.mono be23.size)
  have mA24 := ((bcell hb24).1 _ _ (by omega)).trans mA23
  have mB24 := ((bcell hb24).1 _ _ (by omega)).trans mB23
  have nA24 := ((bcell hb24).1 _ _ (by omega)).trans nA23
  have nB24 := ((bcell hb24).1 _ _ (by omega)).trans nB23
  clear mA23 mB23 nA23 nB23
  have rx0_24 := Lib.hid (rx0_23.out.later hb24)
  clear rx0_23
  have rx1_24 := Lib.hid (rx1_23.out.later hb24)
  clear rx1_23
  have rx2_24 := Lib.hid (rx2_23.out.later hb24)
  clear rx2_23
  have rx3_24 := Lib.hid (rx3_23.out.later hb24)
  clear rx3_23
  have rx4_24 := Lib.hid (rx4_23.out.later hb24)
  clear rx4_23
  clear hb24
  have ry_24 := Lib.hid (ho24)
  clear ho24
  go_wp2_with fail
  refine (dB (eqInt64S_yes _ _ _ _ st _ _ _ (by omega) rx4_24.out.ints ry_24.out.ints)).mono ?_
  rintro e w25 ⟨rfl, hb25⟩
  have sz25 : w24.heap.size ≤ w25.heap.size := hb25.size
  have be25 := be24.trans (hb25.mono be24.size)
  have mA25 := ((bcell hb25).1 _ _ (by omega)).trans mA24
  have mB25 := ((bcell hb25).1 _ _ (by omega)).trans mB24
  have nA25 := ((bcell hb25).1 _ _ (by omega)).trans nA24
  have nB25 := ((bcell hb25).1 _ _ (by omega)).trans nB24
  clear mA24 mB24 nA24 nB24
  have rx0_25 := Lib.hid (rx0_24.out.later hb25)
  clear rx0_24
  have rx1_25 := Lib.hid (rx1_24.out.later hb25)
  clear rx1_24
  have rx2_25 := Lib.hid (rx2_24.out.later hb25)
  clear rx2_24
  have rx3_25 := Lib.hid (rx3_24.out.later hb25)
  clear rx3_24
  have rx4_25 := Lib.hid (rx4_24.out.later hb25)
  clear rx4_24
  have ry_25 := Lib.hid (ry_24.out.later hb25)
  clear ry_24
  clear hb25
  clear ry_25
  go_wp2_with fail
  go_ret
  exact ⟨rfl, be25⟩
end Go.Proofs.YtejkoicgbgoiaaaGreat
