/- The law of ValidPlant: its walk. Conditions: the facts on memory and on lengths that the theorem names. Printed by gen_plantv.py. -/
import Derived.Test.YtlgagnbnjfneaaaPlantV
namespace Go.Proofs.Ytlgagnbnjfneaaa
open Go.RowKit
open Pl
theorem ValidPlant_s (v : Value) (p : Pt) (w : World) (hf : PtFits p) (hl : PtLen p) (hI : PlantIs w.heap.size w v p) :
    Calls Try.prog 34 #[v] w fun e w' => e = .returned (.bool (plantB p)) ∧ Below w.heap.size w w' := by
  obtain ⟨A1, k1, A2, k2, A3, k3, A4, k4, A5, k5, rfl, i1, i2, i3, i4, i5⟩ := hI
  obtain ⟨J, xs, ds, ls, fs, dr, tol⟩ := p
  dsimp only at *
  have be0 : Below w.heap.size w (w.alloc (.cells #[.int .i64 J, .slice A1 xs.length k1, .slice A2 ds.length k2, .slice A3 ls.length k3, .slice A4 fs.length k4, .slice A5 dr.length k5, .int .i64 tol] 62)) := by go_grown
  have HC := Lib.hid (l21Ok_any w.heap.size A1 A2 A3 A4 A5 k1 k2 k3 k4 k5 ⟨J, xs, ds, ls, fs, dr, tol⟩ w.heap.size (w.alloc (.cells #[.int .i64 J, .slice A1 xs.length k1, .slice A2 ds.length k2, .slice A3 ls.length k3, .slice A4 fs.length k4, .slice A5 dr.length k5, .int .i64 tol] 62)) hf hl (i1.below be0) (i2.below be0) (i3.below be0) (i4.below be0) (i5.below be0) (by go_simp) (by go_simp) (by go_simp) (by go_simp) (by go_simp) (by go_simp) (by go_simp))
  clear i1 i2 i3 i4 i5 hf hl
  generalize plantB ⟨J, xs, ds, ls, fs, dr, tol⟩ = R at *
  go_enter Try.func34, Try.ntmps34
  go_wp2_with fail
  refine HC.out.mono ?_
  rintro e w2 ⟨rfl, n, rfl⟩
  go_wp2_with fail
  go_ret
  exact ⟨rfl, below_drewN be0 n⟩
set_option maxRecDepth 100000 in
set_option maxHeartbeats 3200000 in
theorem fnExactValidPlant_walk {w : World} (v : Value) (p : Pt) (hf : PtFits p) (hI : PlantIs w.heap.size w v p) :
    Calls Try.prog 9 #[v] w fun e w' => e = .returned (.bool true) ∧ Below w.heap.size w w' := by
  have HI := Lib.hid hI
  obtain ⟨A1, k1, A2, k2, A3, k3, A4, k4, A5, k5, rfl, -, -, -, -, -⟩ := hI
  obtain ⟨J, xs, ds, ls, fs, dr, tol⟩ := p
  dsimp only at *
  have HF := Lib.hid hf
  clear hf
  have hor := szP_or ⟨J, xs, ds, ls, fs, dr, tol⟩
  have be0 : Below w.heap.size w (w.alloc (.cells #[.int .i64 J, .slice A1 xs.length k1, .slice A2 ds.length k2, .slice A3 ls.length k3, .slice A4 fs.length k4, .slice A5 dr.length k5, .int .i64 tol] 56)) := by go_grown
  have HS := Lib.hid (fun W (hb : Below w.heap.size w W) => szPlant_any _ ⟨J, xs, ds, ls, fs, dr, tol⟩ W HF.out (HI.out.later hb))
  have hbx : Bx (w.alloc (.cells #[.int .i64 J, .slice A1 xs.length k1, .slice A2 ds.length k2, .slice A3 ls.length k3, .slice A4 fs.length k4, .slice A5 dr.length k5, .int .i64 tol] 56)) w.heap.size [.int .i64 J, .slice A1 xs.length k1, .slice A2 ds.length k2, .slice A3 ls.length k3, .slice A4 fs.length k4, .slice A5 dr.length k5, .int .i64 tol] := bx7_of (by go_simp) (by go_simp) (by go_simp) (by go_simp) (by go_simp) (by go_simp) (by go_simp) (fun j => by go_simp)
  have szg0 : w.heap.size < ((w.alloc (.cells #[.int .i64 J, .slice A1 xs.length k1, .slice A2 ds.length k2, .slice A3 ls.length k3, .slice A4 fs.length k4, .slice A5 dr.length k5, .int .i64 tol] 56))).heap.size := by simp
  have HB0 := Lib.hid hbx
  clear hbx
  generalize szP ⟨J, xs, ds, ls, fs, dr, tol⟩ = q at *
  generalize hpb : plantB ⟨J, xs, ds, ls, fs, dr, tol⟩ = R
  have HPB := Lib.hid hpb
  clear hpb
  go_enter Try.func9, Try.ntmps9
  go_wp2_with fail
  generalize (w.alloc (.cells #[.int .i64 J, .slice A1 xs.length k1, .slice A2 ds.length k2, .slice A3 ls.length k3, .slice A4 fs.length k4, .slice A5 dr.length k5, .int .i64 tol] 56)) = w0 at *
  refine (HS.out _ be0).mono ?_
  rintro e w1 ⟨rfl, hb1⟩
  have be1 := be0.trans (hb1.mono be0.size)
  have szg1 : w.heap.size < w1.heap.size := Nat.lt_of_lt_of_le szg0 hb1.size
  have HB1 := Lib.hid (HB0.out.below hb1 szg0)
  obtain ⟨⟨p0, p1, p2, p3, p4, p5, p6⟩, -⟩ := bx7 HB1.out
  rcases hor with hq | hl
  · go_wp2_with fail
    go_ret
    exact ⟨rfl, be1⟩
  by_cases hq : q < 0
  · go_wp2_with fail
    go_ret
    exact ⟨rfl, be1⟩
  have HL := Lib.hid hl
  clear hl
  go_wp2_with fail
  clear p0 p1 p2 p3 p4 p5 p6
  refine (toPlant_any _ ⟨J, xs, ds, ls, fs, dr, tol⟩ w1 HL.out (HI.out.later be1)).mono ?_
  rintro e w2 ⟨v2, rfl, P2, -, hb2⟩
  have be2 := be1.trans (hb2.mono be1.size)
  have szg2 : w.heap.size < w2.heap.size := Nat.lt_of_lt_of_le szg1 hb2.size
  have HB2 := Lib.hid (HB1.out.below hb2 szg1)
  have HP2 := Lib.hid P2
  clear P2
  go_wp2_with fail
  refine (ValidPlant_s v2 ⟨J, xs, ds, ls, fs, dr, tol⟩ w2 HF.out HL.out HP2.out).mono ?_
  rintro e w3 ⟨rfl, hb3⟩
  have be3 := be2.trans (hb3.mono be2.size)
  have szg3 : w.heap.size < w3.heap.size := Nat.lt_of_lt_of_le szg2 hb3.size
  have HB3 := Lib.hid (HB2.out.below hb3 szg2)
  obtain ⟨⟨p0, p1, p2, p3, p4, p5, p6⟩, -⟩ := bx7 HB3.out
  rw [HPB.out]
  go_wp2_with fail
  clear p0 p1 p2 p3 p4 p5 p6
  refine (toPlant_any _ ⟨J, xs, ds, ls, fs, dr, tol⟩ w3 HL.out (HI.out.later be3)).mono ?_
  rintro e w4 ⟨v4, rfl, P4, C4, hb4⟩
  have be4 := be3.trans (hb4.mono be3.size)
  have szg4 : w.heap.size < w4.heap.size := Nat.lt_of_lt_of_le szg3 hb4.size
  have HB4 := Lib.hid (HB3.out.below hb4 szg3)
  have HP4 := Lib.hid P4
  have HC4 := Lib.hid C4
  obtain ⟨B1, m1, B2, m2, B3, m3, B4, m4, B5, m5, rfl, -, -, -, -, -⟩ := P4
  dsimp only at *
  clear C4
  have bx4 : Below w4.heap.size w4 (w4.alloc (.cells #[.int .i64 J, .slice B1 xs.length m1, .slice B2 ds.length m2, .slice B3 ls.length m3, .slice B4 fs.length m4, .slice B5 dr.length m5, .int .i64 tol] 62)) := (Below.refl _ _).alloc (Nat.le_refl _) _
  have hby : Bx (w4.alloc (.cells #[.int .i64 J, .slice B1 xs.length m1, .slice B2 ds.length m2, .slice B3 ls.length m3, .slice B4 fs.length m4, .slice B5 dr.length m5, .int .i64 tol] 62)) w4.heap.size [.int .i64 J, .slice B1 xs.length m1, .slice B2 ds.length m2, .slice B3 ls.length m3, .slice B4 fs.length m4, .slice B5 dr.length m5, .int .i64 tol] := bx7_of (by go_simp) (by go_simp) (by go_simp) (by go_simp) (by go_simp) (by go_simp) (by go_simp) (fun j => by go_simp)
  have szx : w4.heap.size < ((w4.alloc (.cells #[.int .i64 J, .slice B1 xs.length m1, .slice B2 ds.length m2, .slice B3 ls.length m3, .slice B4 fs.length m4, .slice B5 dr.length m5, .int .i64 tol] 62))).heap.size := by simp
  have HY5 := Lib.hid hby
  have HB5 := Lib.hid (HB4.out.below bx4 szg4)
  clear hby
  go_wp2_with fail
  generalize (w4.alloc (.cells #[.int .i64 J, .slice B1 xs.length m1, .slice B2 ds.length m2, .slice B3 ls.length m3, .slice B4 fs.length m4, .slice B5 dr.length m5, .int .i64 tol] 62)) = w5 at *
  have be5 := be4.trans (bx4.mono be4.size)
  have HP5 := Lib.hid (HP4.out.later bx4)
  refine (ValidPlant_i _ ⟨J, xs, ds, ls, fs, dr, tol⟩ w5 HF.out HL.out HC4.out HP5.out).mono ?_
  rintro e w6 ⟨rfl, hb6⟩
  have be6 := be5.trans (hb6.mono be5.size)
  have HP6 := Lib.hid (HP5.out.later hb6)
  have szg5 : w.heap.size < w5.heap.size := by omega
  have szy6 : w4.heap.size < w6.heap.size := Nat.lt_of_lt_of_le szx hb6.size
  have szg6 : w.heap.size < w6.heap.size := by omega
  have HB6 := Lib.hid (HB5.out.below hb6 szg5)
  have HY6 := Lib.hid (HY5.out.below hb6 szx)
  rw [HPB.out]
  obtain ⟨⟨p0, p1, p2, p3, p4, p5, p6⟩, -⟩ := bx7 HB6.out
  obtain ⟨⟨q0, q1, q2, q3, q4, q5, q6⟩, -⟩ := bx7 HY6.out
  have hRR : (R != R) = false := by simp
  go_wp2_with fail
  go_region_held3 (fun w' => (w'.cell? ⟨w.heap.size, 0, none⟩ = some (.int .i64 J) ∧ w'.cell? ⟨w.heap.size, 1, none⟩ = some (.slice A1 xs.length k1) ∧ w'.cell? ⟨w.heap.size, 2, none⟩ = some (.slice A2 ds.length k2) ∧ w'.cell? ⟨w.heap.size, 3, none⟩ = some (.slice A3 ls.length k3) ∧ w'.cell? ⟨w.heap.size, 4, none⟩ = some (.slice A4 fs.length k4) ∧ w'.cell? ⟨w.heap.size, 5, none⟩ = some (.slice A5 dr.length k5) ∧ w'.cell? ⟨w.heap.size, 6, none⟩ = some (.int .i64 tol)) ∧ (w'.cell? ⟨w4.heap.size, 0, none⟩ = some (.int .i64 J) ∧ w'.cell? ⟨w4.heap.size, 1, none⟩ = some (.slice B1 xs.length m1) ∧ w'.cell? ⟨w4.heap.size, 2, none⟩ = some (.slice B2 ds.length m2) ∧ w'.cell? ⟨w4.heap.size, 3, none⟩ = some (.slice B3 ls.length m3) ∧ w'.cell? ⟨w4.heap.size, 4, none⟩ = some (.slice B4 fs.length m4) ∧ w'.cell? ⟨w4.heap.size, 5, none⟩ = some (.slice B5 dr.length m5) ∧ w'.cell? ⟨w4.heap.size, 6, none⟩ = some (.int .i64 tol)))
    (first
      | go_keep
      | exact ⟨⟨((bcell hb8).1 _ _ (by have := hb7.size; simp at this; omega)).trans (((bcell hb7).1 _ _ (by simp <;> omega)).trans p0), ((bcell hb8).1 _ _ (by have := hb7.size; simp at this; omega)).trans (((bcell hb7).1 _ _ (by simp <;> omega)).trans p1), ((bcell hb8).1 _ _ (by have := hb7.size; simp at this; omega)).trans (((bcell hb7).1 _ _ (by simp <;> omega)).trans p2), ((bcell hb8).1 _ _ (by have := hb7.size; simp at this; omega)).trans (((bcell hb7).1 _ _ (by simp <;> omega)).trans p3), ((bcell hb8).1 _ _ (by have := hb7.size; simp at this; omega)).trans (((bcell hb7).1 _ _ (by simp <;> omega)).trans p4), ((bcell hb8).1 _ _ (by have := hb7.size; simp at this; omega)).trans (((bcell hb7).1 _ _ (by simp <;> omega)).trans p5), ((bcell hb8).1 _ _ (by have := hb7.size; simp at this; omega)).trans (((bcell hb7).1 _ _ (by simp <;> omega)).trans p6)⟩, ((bcell hb8).1 _ _ (by have := hb7.size; simp at this; omega)).trans (((bcell hb7).1 _ _ (by simp <;> omega)).trans q0), ((bcell hb8).1 _ _ (by have := hb7.size; simp at this; omega)).trans (((bcell hb7).1 _ _ (by simp <;> omega)).trans q1), ((bcell hb8).1 _ _ (by have := hb7.size; simp at this; omega)).trans (((bcell hb7).1 _ _ (by simp <;> omega)).trans q2), ((bcell hb8).1 _ _ (by have := hb7.size; simp at this; omega)).trans (((bcell hb7).1 _ _ (by simp <;> omega)).trans q3), ((bcell hb8).1 _ _ (by have := hb7.size; simp at this; omega)).trans (((bcell hb7).1 _ _ (by simp <;> omega)).trans q4), ((bcell hb8).1 _ _ (by have := hb7.size; simp at this; omega)).trans (((bcell hb7).1 _ _ (by simp <;> omega)).trans q5), ((bcell hb8).1 _ _ (by have := hb7.size; simp at this; omega)).trans (((bcell hb7).1 _ _ (by simp <;> omega)).trans q6)⟩
      | exact ⟨⟨((bcell hb7).1 _ _ (by simp <;> omega)).trans p0, ((bcell hb7).1 _ _ (by simp <;> omega)).trans p1, ((bcell hb7).1 _ _ (by simp <;> omega)).trans p2, ((bcell hb7).1 _ _ (by simp <;> omega)).trans p3, ((bcell hb7).1 _ _ (by simp <;> omega)).trans p4, ((bcell hb7).1 _ _ (by simp <;> omega)).trans p5, ((bcell hb7).1 _ _ (by simp <;> omega)).trans p6⟩, ((bcell hb7).1 _ _ (by simp <;> omega)).trans q0, ((bcell hb7).1 _ _ (by simp <;> omega)).trans q1, ((bcell hb7).1 _ _ (by simp <;> omega)).trans q2, ((bcell hb7).1 _ _ (by simp <;> omega)).trans q3, ((bcell hb7).1 _ _ (by simp <;> omega)).trans q4, ((bcell hb7).1 _ _ (by simp <;> omega)).trans q5, ((bcell hb7).1 _ _ (by simp <;> omega)).trans q6⟩)
    (first
      | (go_at_call 35; refine (toPlant_any _ ⟨J, xs, ds, ls, fs, dr, tol⟩ _ HL.out (by first | exact HI.out.later be6 | exact HI.out.later be6.drew)).mono ?_; rintro e w7 ⟨v7, rfl, P7, -, hb7⟩; have HP7 := Lib.hid P7; clear P7)
      | (go_at_call 37; refine (eqPlant_yes _ _ ⟨J, xs, ds, ls, fs, dr, tol⟩ _ HL.out (by first | exact HP6.out.later hb7 | exact (HP6.out.later (Below.refl _ _).drew).later hb7) HP7.out).mono ?_; rintro e w8 ⟨rfl, hb8⟩))
  go_wp2_with fail
  go_ret
  exact ⟨rfl, (be6.drew.trans (hb7.mono be6.drew.size)).trans (hb8.mono (by have := be6.drew.size; have := hb7.size; omega))⟩
end Go.Proofs.Ytlgagnbnjfneaaa
