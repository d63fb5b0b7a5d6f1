/- Plants: the law's own comparison. Conditions: the lengths that the theorem names. Printed by gen_plant.py. -/
import Derived.Test.YtlgagnbnjfneaaaPlant
namespace Go.Proofs.Ytlgagnbnjfneaaa
open Go.RowKit
open Pl
set_option maxRecDepth 100000 in
set_option maxHeartbeats 1600000 in
theorem eqPlant_yes (v v' : Value) (p : Pt) (w : World) (hl : PtLen p) (hI : PlantIs w.heap.size w v p) (hI' : PlantIs w.heap.size w v' p) :
    Calls Try.prog 37 #[v, v'] w fun e w' => e = .returned (.bool true) ∧ Below w.heap.size w w' := by
  obtain ⟨J, xs, ds, ls, fs, dr, tol⟩ := p
  obtain ⟨A1, k1, A2, k2, A3, k3, A4, k4, A5, k5, rfl, i1, i2, i3, i4, i5⟩ := hI
  obtain ⟨B1, m1, B2, m2, B3, m3, B4, m4, B5, m5, rfl, j1, j2, j3, j4, j5⟩ := hI'
  obtain ⟨l1, l2, l3, l3', l4, l4', l5⟩ := hl
  dsimp only at *
  have C1 := Lib.hid (fun W (hb : Below w.heap.size w W) => eqMine_yes J A1 B1 k1 m1 xs w.heap.size w.heap.size W (by omega) (i1.below hb) (j1.below hb) hb.size hb.size)
  have C2 := Lib.hid (fun W (hb : Below w.heap.size w W) => eqDoorS_yes A2 B2 k2 m2 ds w.heap.size w.heap.size W (by omega) (i2.below hb) (j2.below hb) hb.size hb.size)
  have C3 := Lib.hid (fun W (hb : Below w.heap.size w W) => eqInt64SS_yes A3 B3 k3 m3 ls w.heap.size w.heap.size W (by omega) l3' (i3.below hb) (j3.below hb) hb.size hb.size)
  have C4 := Lib.hid (fun W (hb : Below w.heap.size w W) => eqFanS_yes A4 B4 k4 m4 fs w.heap.size w.heap.size W (by omega) l4' (i4.below hb) (j4.below hb) hb.size hb.size)
  have C5 := Lib.hid (fun W (hb : Below w.heap.size w W) => (eqInt64S_yes A5 B5 k5 m5 dr w.heap.size w.heap.size W (by omega) (i5.below hb) (j5.below hb)).mono (fun e w' (h : _ ∧ ∃ n, W.drewN n = w') => (⟨h.1, by obtain ⟨_, n, rfl⟩ := h; exact below_drewN (Below.refl _ _) n⟩ : _ ∧ Below W.heap.size W w')))
  clear i1 i2 i3 i4 i5 j1 j2 j3 j4 j5 l1 l2 l3 l3' l4 l4' l5
  have be0 : Below w.heap.size w ((w.alloc (.cells #[.int .i64 J, .slice A1 xs.length k1, .slice A2 ds.length k2, .slice A3 ls.length k3, .slice A4 fs.length k4, .slice A5 dr.length k5, .int .i64 tol] 62)).alloc (.cells #[.int .i64 J, .slice B1 xs.length m1, .slice B2 ds.length m2, .slice B3 ls.length m3, .slice B4 fs.length m4, .slice B5 dr.length m5, .int .i64 tol] 62)) := by go_grown
  have hp : Bx ((w.alloc (.cells #[.int .i64 J, .slice A1 xs.length k1, .slice A2 ds.length k2, .slice A3 ls.length k3, .slice A4 fs.length k4, .slice A5 dr.length k5, .int .i64 tol] 62)).alloc (.cells #[.int .i64 J, .slice B1 xs.length m1, .slice B2 ds.length m2, .slice B3 ls.length m3, .slice B4 fs.length m4, .slice B5 dr.length m5, .int .i64 tol] 62)) w.heap.size [.int .i64 J, .slice A1 xs.length k1, .slice A2 ds.length k2, .slice A3 ls.length k3, .slice A4 fs.length k4, .slice A5 dr.length k5, .int .i64 tol] := bx7_of (by go_simp) (by go_simp) (by go_simp) (by go_simp) (by go_simp) (by go_simp) (by go_simp) (fun j => by go_simp)
  have hq : Bx ((w.alloc (.cells #[.int .i64 J, .slice A1 xs.length k1, .slice A2 ds.length k2, .slice A3 ls.length k3, .slice A4 fs.length k4, .slice A5 dr.length k5, .int .i64 tol] 62)).alloc (.cells #[.int .i64 J, .slice B1 xs.length m1, .slice B2 ds.length m2, .slice B3 ls.length m3, .slice B4 fs.length m4, .slice B5 dr.length m5, .int .i64 tol] 62)) (w.heap.size + 1) [.int .i64 J, .slice B1 xs.length m1, .slice B2 ds.length m2, .slice B3 ls.length m3, .slice B4 fs.length m4, .slice B5 dr.length m5, .int .i64 tol] := bx7_of (by go_simp) (by go_simp) (by go_simp) (by go_simp) (by go_simp) (by go_simp) (by go_simp) (fun j => by go_simp)
  have szg0 : w.heap.size + 1 < (((w.alloc (.cells #[.int .i64 J, .slice A1 xs.length k1, .slice A2 ds.length k2, .slice A3 ls.length k3, .slice A4 fs.length k4, .slice A5 dr.length k5, .int .i64 tol] 62)).alloc (.cells #[.int .i64 J, .slice B1 xs.length m1, .slice B2 ds.length m2, .slice B3 ls.length m3, .slice B4 fs.length m4, .slice B5 dr.length m5, .int .i64 tol] 62))).heap.size := by simp
  have HP0 := Lib.hid hp
  have HQ0 := Lib.hid hq
  clear hp hq
  go_enter Try.func37, Try.ntmps37
  go_wp2_with fail
  generalize ((w.alloc (.cells #[.int .i64 J, .slice A1 xs.length k1, .slice A2 ds.length k2, .slice A3 ls.length k3, .slice A4 fs.length k4, .slice A5 dr.length k5, .int .i64 tol] 62)).alloc (.cells #[.int .i64 J, .slice B1 xs.length m1, .slice B2 ds.length m2, .slice B3 ls.length m3, .slice B4 fs.length m4, .slice B5 dr.length m5, .int .i64 tol] 62)) = w0 at *
  refine (C1.out _ be0).mono ?_
  rintro e w1 ⟨rfl, hb1⟩
  have HP1 := Lib.hid (HP0.out.below hb1 (by omega))
  have HQ1 := Lib.hid (HQ0.out.below hb1 szg0)
  have be1 := be0.trans (hb1.mono be0.size)
  have szg1 : w.heap.size + 1 < w1.heap.size := Nat.lt_of_lt_of_le szg0 hb1.size
  obtain ⟨⟨p0, p1, p2, p3, p4, p5, p6⟩, ⟨pf0, pf1, pf2, pf3, pf4, pf5, pf6⟩⟩ := bx7 HP1.out
  obtain ⟨⟨q0, q1, q2, q3, q4, q5, q6⟩, ⟨qf0, qf1, qf2, qf3, qf4, qf5, qf6⟩⟩ := bx7 HQ1.out
  go_wp2_with fail
  clear p0 pf0 q0 qf0 p1 pf1 q1 qf1 p2 pf2 q2 qf2 p3 pf3 q3 qf3 p4 pf4 q4 qf4 p5 pf5 q5 qf5 p6 pf6 q6 qf6
  refine (C2.out _ be1).mono ?_
  rintro e w2 ⟨rfl, hb2⟩
  have HP2 := Lib.hid (HP1.out.below hb2 (by omega))
  have HQ2 := Lib.hid (HQ1.out.below hb2 szg1)
  have be2 := be1.trans (hb2.mono be1.size)
  have szg2 : w.heap.size + 1 < w2.heap.size := Nat.lt_of_lt_of_le szg1 hb2.size
  obtain ⟨⟨p0, p1, p2, p3, p4, p5, p6⟩, ⟨pf0, pf1, pf2, pf3, pf4, pf5, pf6⟩⟩ := bx7 HP2.out
  obtain ⟨⟨q0, q1, q2, q3, q4, q5, q6⟩, ⟨qf0, qf1, qf2, qf3, qf4, qf5, qf6⟩⟩ := bx7 HQ2.out
  go_wp2_with fail
  clear p0 pf0 q0 qf0 p1 pf1 q1 qf1 p2 pf2 q2 qf2 p3 pf3 q3 qf3 p4 pf4 q4 qf4 p5 pf5 q5 qf5 p6 pf6 q6 qf6
  refine (C3.out _ be2).mono ?_
  rintro e w3 ⟨rfl, hb3⟩
  have HP3 := Lib.hid (HP2.out.below hb3 (by omega))
  have HQ3 := Lib.hid (HQ2.out.below hb3 szg2)
  have be3 := be2.trans (hb3.mono be2.size)
  have szg3 : w.heap.size + 1 < w3.heap.size := Nat.lt_of_lt_of_le szg2 hb3.size
  obtain ⟨⟨p0, p1, p2, p3, p4, p5, p6⟩, ⟨pf0, pf1, pf2, pf3, pf4, pf5, pf6⟩⟩ := bx7 HP3.out
  obtain ⟨⟨q0, q1, q2, q3, q4, q5, q6⟩, ⟨qf0, qf1, qf2, qf3, qf4, qf5, qf6⟩⟩ := bx7 HQ3.out
  go_wp2_with fail
  clear p0 pf0 q0 qf0 p1 pf1 q1 qf1 p2 pf2 q2 qf2 p3 pf3 q3 qf3 p4 pf4 q4 qf4 p5 pf5 q5 qf5 p6 pf6 q6 qf6
  refine (C4.out _ be3).mono ?_
  rintro e w4 ⟨rfl, hb4⟩
  have HP4 := Lib.hid (HP3.out.below hb4 (by omega))
  have HQ4 := Lib.hid (HQ3.out.below hb4 szg3)
  have be4 := be3.trans (hb4.mono be3.size)
  have szg4 : w.heap.size + 1 < w4.heap.size := Nat.lt_of_lt_of_le szg3 hb4.size
  obtain ⟨⟨p0, p1, p2, p3, p4, p5, p6⟩, ⟨pf0, pf1, pf2, pf3, pf4, pf5, pf6⟩⟩ := bx7 HP4.out
  obtain ⟨⟨q0, q1, q2, q3, q4, q5, q6⟩, ⟨qf0, qf1, qf2, qf3, qf4, qf5, qf6⟩⟩ := bx7 HQ4.out
  go_wp2_with fail
  clear p0 pf0 q0 qf0 p1 pf1 q1 qf1 p2 pf2 q2 qf2 p3 pf3 q3 qf3 p4 pf4 q4 qf4 p5 pf5 q5 qf5 p6 pf6 q6 qf6
  refine (C5.out _ be4).mono ?_
  rintro e w5 ⟨rfl, hb5⟩
  have HP5 := Lib.hid (HP4.out.below hb5 (by omega))
  have HQ5 := Lib.hid (HQ4.out.below hb5 szg4)
  have be5 := be4.trans (hb5.mono be4.size)
  have szg5 : w.heap.size + 1 < w5.heap.size := Nat.lt_of_lt_of_le szg4 hb5.size
  obtain ⟨⟨p0, p1, p2, p3, p4, p5, p6⟩, ⟨pf0, pf1, pf2, pf3, pf4, pf5, pf6⟩⟩ := bx7 HP5.out
  obtain ⟨⟨q0, q1, q2, q3, q4, q5, q6⟩, ⟨qf0, qf1, qf2, qf3, qf4, qf5, qf6⟩⟩ := bx7 HQ5.out
  go_wp2_with fail
  go_ret
  exact ⟨rfl, be5⟩
end Go.Proofs.Ytlgagnbnjfneaaa
