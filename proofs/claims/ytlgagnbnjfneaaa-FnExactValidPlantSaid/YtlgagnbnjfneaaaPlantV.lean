/- Plants: when one is valid, by the program and by the reference. Conditions: the facts on memory and on lengths that each theorem names. Printed by gen_plantv.py. -/
import Derived.Test.YtlgagnbnjfneaaaPlantE
import Derived.Test.YtlgagnbnjfneaaaFansV
import Derived.Test.YtlgagnbnjfneaaaDoorsR
import Derived.Test.YtlgagnbnjfneaaaPress
namespace Go.Proofs.Ytlgagnbnjfneaaa
open Go.RowKit
open Pl
noncomputable def plantB (p : Pt) : Bool := doorsB p.J p.xs p.ds && (locksB (p.ds.length : Int) p.ls && (fansB p.fs && (hasFB p.xs.length p.fs && ((decide ((p.dr.length : Int) = p.xs.length) && allIn p.dr (-100000) 100000) && inB p.tol 0 100000))))
theorem fansB_aw {fs : List Fa} (h : fansB fs = true) : ∀ x ∈ fs, 0 ≤ x.aw := by
  intro x hx
  obtain ⟨k, hk, rfl⟩ := List.getElem_of_mem hx
  unfold fansB at h
  rw [Bool.and_eq_true, allUp_iff] at h
  have h1 := h.2 k hk
  unfold fansP at h1
  rw [Bool.and_eq_true, getD_fa hk] at h1
  have h2 := h1.1
  unfold fanB at h2
  simp only [Bool.and_eq_true] at h2
  exact (inB_iff.1 h2.2.1).1
set_option maxRecDepth 100000 in
set_option maxHeartbeats 1600000 in
theorem ValidPlant_i (v : Value) (p : Pt) (w : World) (hf : PtFits p) (hl : PtLen p) (hcap : CapOk v) (hI : PlantIs w.heap.size w v p) :
    Calls Try.prog 36 #[v] w fun e w' => e = .returned (.bool (plantB p)) ∧ Below w.heap.size w w' := by
  obtain ⟨A1, k1, A2, k2, A3, k3, A4, k4, A5, k5, rfl, i1, i2, i3, i4, i5⟩ := hI
  obtain ⟨l1, l2, l3, l3', l4, l4', l5⟩ := hl
  obtain ⟨f1, f1', f2, f2', f3, f3', f4', f4, f5', f5, -, -⟩ := hf
  obtain ⟨J, xs, ds, ls, fs, dr, tol⟩ := p
  have hc2 : ds.length ≤ k2 := hcap _ _ _ _ _ _ _ _ _ rfl
  dsimp only at *
  have HP : Hid (plantB ⟨J, xs, ds, ls, fs, dr, tol⟩ = (doorsB J xs ds && (locksB (ds.length : Int) ls && (fansB fs && (hasFB xs.length fs && ((decide ((dr.length : Int) = xs.length) && allIn dr (-100000) 100000) && inB tol 0 100000)))))) := Lib.hid rfl
  have C1 := Lib.hid (fun W (hb : Below w.heap.size w W) => ValidDoors_i J A1 k1 xs A2 k2 ds w.heap.size W (by omega) hc2 f1 f2 (i1.below hb) (i2.below hb) hb.size)
  have C2 := Lib.hid (fun W (hb : Below w.heap.size w W) => dB (ValidLocks_any (ds.length : Int) A3 k3 ls w.heap.size W (by omega) (i3.below hb)))
  have C3 := Lib.hid (fun W (hb : Below w.heap.size w W) => ValidFans_i A4 k4 fs w.heap.size W (by omega) f4 l4' (i4.below hb) hb.size)
  have C4 := Lib.hid (fun W (hb : Below w.heap.size w W) => hasFans_any J A1 k1 xs.length A4 k4 fs w.heap.size W (by omega) (by omega) (i4.below hb) hb.size)
  have C5 := Lib.hid (fun W (hb : Below w.heap.size w W) => hasList_any J A1 k1 xs A5 k5 dr (-100000) 100000 w.heap.size W (by omega) (by omega) (i5.below hb) hb.size f5)
  have C6 := Lib.hid (fun W => sB (within_any tol 0 100000 W))
  clear i1 i2 i3 i4 i5 f1 f1' f2 f2' f3 f3' f4' f4 f5' f5 l4' l3' hcap
  generalize plantB ⟨J, xs, ds, ls, fs, dr, tol⟩ = R at *
  generalize doorsB J xs ds = b1 at *
  generalize locksB (ds.length : Int) ls = b2 at *
  generalize fansB fs = b3 at *
  generalize hasFB xs.length fs = b4 at *
  generalize (decide ((dr.length : Int) = xs.length) && allIn dr (-100000) 100000) = b5 at *
  generalize inB tol 0 100000 = b6 at *
  have be0 : Below w.heap.size w (w.alloc (.cells #[.int .i64 J, .slice A1 xs.length k1, .slice A2 ds.length k2, .slice A3 ls.length k3, .slice A4 fs.length k4, .slice A5 dr.length k5, .int .i64 tol] 62)) := by go_grown
  have hbx : Bx (w.alloc (.cells #[.int .i64 J, .slice A1 xs.length k1, .slice A2 ds.length k2, .slice A3 ls.length k3, .slice A4 fs.length k4, .slice A5 dr.length k5, .int .i64 tol] 62)) w.heap.size [.int .i64 J, .slice A1 xs.length k1, .slice A2 ds.length k2, .slice A3 ls.length k3, .slice A4 fs.length k4, .slice A5 dr.length k5, .int .i64 tol] := bx7_of (by go_simp) (by go_simp) (by go_simp) (by go_simp) (by go_simp) (by go_simp) (by go_simp) (fun j => by go_simp)
  have szg0 : w.heap.size < ((w.alloc (.cells #[.int .i64 J, .slice A1 xs.length k1, .slice A2 ds.length k2, .slice A3 ls.length k3, .slice A4 fs.length k4, .slice A5 dr.length k5, .int .i64 tol] 62))).heap.size := by simp
  have HB0 := Lib.hid hbx
  clear hbx
  go_enter Try.func36, Try.ntmps36
  go_wp2_with fail
  generalize (w.alloc (.cells #[.int .i64 J, .slice A1 xs.length k1, .slice A2 ds.length k2, .slice A3 ls.length k3, .slice A4 fs.length k4, .slice A5 dr.length k5, .int .i64 tol] 62)) = w0 at *
  refine (C1.out _ be0).mono ?_
  rintro e w1 ⟨rfl, hb1⟩
  have HB1 := Lib.hid (HB0.out.below hb1 szg0)
  have be1 := be0.trans (hb1.mono be0.size)
  have szg1 : w.heap.size < w1.heap.size := Nat.lt_of_lt_of_le szg0 hb1.size
  cases b1
  · go_wp2_with fail
    go_ret
    exact ⟨ret_bool (by rw [HP.out]; rfl), be1⟩
  obtain ⟨⟨p0, p1, p2, p3, p4, p5, p6⟩, ⟨pf0, pf1, pf2, pf3, pf4, pf5, pf6⟩⟩ := bx7 HB1.out
  go_wp2_with fail
  clear p0 pf0 p1 pf1 p2 pf2 p3 pf3 p4 pf4 p5 pf5 p6 pf6
  refine (C2.out _ be1).mono ?_
  rintro e w2 ⟨rfl, hb2⟩
  have HB2 := Lib.hid (HB1.out.below hb2 szg1)
  have be2 := be1.trans (hb2.mono be1.size)
  have szg2 : w.heap.size < w2.heap.size := Nat.lt_of_lt_of_le szg1 hb2.size
  cases b2
  · go_wp2_with fail
    go_ret
    exact ⟨ret_bool (by rw [HP.out]; rfl), be2⟩
  obtain ⟨⟨p0, p1, p2, p3, p4, p5, p6⟩, ⟨pf0, pf1, pf2, pf3, pf4, pf5, pf6⟩⟩ := bx7 HB2.out
  go_wp2_with fail
  clear p0 pf0 p1 pf1 p2 pf2 p3 pf3 p4 pf4 p5 pf5 p6 pf6
  refine (C3.out _ be2).mono ?_
  rintro e w3 ⟨rfl, hb3⟩
  have HB3 := Lib.hid (HB2.out.below hb3 szg2)
  have be3 := be2.trans (hb3.mono be2.size)
  have szg3 : w.heap.size < w3.heap.size := Nat.lt_of_lt_of_le szg2 hb3.size
  cases b3
  · go_wp2_with fail
    go_ret
    exact ⟨ret_bool (by rw [HP.out]; rfl), be3⟩
  obtain ⟨⟨p0, p1, p2, p3, p4, p5, p6⟩, ⟨pf0, pf1, pf2, pf3, pf4, pf5, pf6⟩⟩ := bx7 HB3.out
  go_wp2_with fail
  clear p0 pf0 p1 pf1 p2 pf2 p3 pf3 p4 pf4 p5 pf5 p6 pf6
  refine (C4.out _ be3).mono ?_
  rintro e w4 ⟨rfl, hb4⟩
  have HB4 := Lib.hid (HB3.out.below hb4 szg3)
  have be4 := be3.trans (hb4.mono be3.size)
  have szg4 : w.heap.size < w4.heap.size := Nat.lt_of_lt_of_le szg3 hb4.size
  cases b4
  · go_wp2_with fail
    go_ret
    exact ⟨ret_bool (by rw [HP.out]; rfl), be4⟩
  obtain ⟨⟨p0, p1, p2, p3, p4, p5, p6⟩, ⟨pf0, pf1, pf2, pf3, pf4, pf5, pf6⟩⟩ := bx7 HB4.out
  go_wp2_with fail
  clear p0 pf0 p1 pf1 p2 pf2 p3 pf3 p4 pf4 p5 pf5 p6 pf6
  refine (C5.out _ be4).mono ?_
  rintro e w5 ⟨rfl, hb5⟩
  have HB5 := Lib.hid (HB4.out.below hb5 szg4)
  have be5 := be4.trans (hb5.mono be4.size)
  have szg5 : w.heap.size < w5.heap.size := Nat.lt_of_lt_of_le szg4 hb5.size
  cases b5
  · go_wp2_with fail
    go_ret
    exact ⟨ret_bool (by rw [HP.out]; rfl), be5⟩
  obtain ⟨⟨p0, p1, p2, p3, p4, p5, p6⟩, ⟨pf0, pf1, pf2, pf3, pf4, pf5, pf6⟩⟩ := bx7 HB5.out
  go_wp2_with fail
  clear p0 pf0 p1 pf1 p2 pf2 p3 pf3 p4 pf4 p5 pf5 p6 pf6
  refine (C6.out _).mono ?_
  rintro e w6 ⟨rfl, hb6⟩
  have HB6 := Lib.hid (HB5.out.below hb6 szg5)
  have be6 := be5.trans (hb6.mono be5.size)
  have szg6 : w.heap.size < w6.heap.size := Nat.lt_of_lt_of_le szg5 hb6.size
  go_wp2_with fail
  go_ret
  exact ⟨ret_bool (by rw [HP.out]; rfl), be6⟩
set_option maxRecDepth 100000 in
set_option maxHeartbeats 3200000 in
theorem l21Ok_any (b : Nat) (A1 A2 A3 A4 A5 : Option Addr) (k1 k2 k3 k4 k5 : Nat) (p : Pt) (B : Nat) (w : World) (hf : PtFits p) (hl : PtLen p) (i1 : Recs encA 7 B w A1 p.xs) (i2 : Recs encDo 4 B w A2 p.ds) (i3 : Nest B w A3 p.ls) (i4 : Fns B w A4 p.fs) (i5 : Ints B w A5 p.dr)
    (p0 : w.cell? ⟨b, 0, none⟩ = some (.int .i64 p.J)) (p1 : w.cell? ⟨b, 1, none⟩ = some (.slice A1 p.xs.length k1)) (p2 : w.cell? ⟨b, 2, none⟩ = some (.slice A2 p.ds.length k2)) (p3 : w.cell? ⟨b, 3, none⟩ = some (.slice A3 p.ls.length k3)) (p4 : w.cell? ⟨b, 4, none⟩ = some (.slice A4 p.fs.length k4)) (p5 : w.cell? ⟨b, 5, none⟩ = some (.slice A5 p.dr.length k5)) (p6 : w.cell? ⟨b, 6, none⟩ = some (.int .i64 p.tol)) :
    Calls Try.prog 75 #[.pointer (some ⟨b, 0, none⟩)] w fun e w' => e = .returned (.bool (plantB p)) ∧ ∃ n, w.drewN n = w' := by
  obtain ⟨l1, l2, l3, l3', l4, l4', l5⟩ := hl
  obtain ⟨f1, f1', f2, f2', f3, f3', f4', f4, f5', f5, -, -⟩ := hf
  obtain ⟨J, xs, ds, ls, fs, dr, tol⟩ := p
  dsimp only at *
  have HP : Hid (plantB ⟨J, xs, ds, ls, fs, dr, tol⟩ = (doorsB J xs ds && (locksB (ds.length : Int) ls && (fansB fs && (hasFB xs.length fs && ((decide ((dr.length : Int) = xs.length) && allIn dr (-100000) 100000) && inB tol 0 100000)))))) := Lib.hid rfl
  have C1 := Lib.hid (fun n => l10Ok_any b 0 J A1 k1 xs A2 k2 ds B (w.drewN n) (by omega) (by omega) f1 f2 (i1.below (below_drewN (Below.refl _ _) n)) (i2.below (below_drewN (Below.refl _ _) n)) (by simpa using p0) (by simpa using p1))
  have C2 := Lib.hid (fun n => l10Locks_any (ds.length : Int) A3 k3 ls B (w.drewN n) (by omega) (i3.below (below_drewN (Below.refl _ _) n)))
  have C3 := Lib.hid (fun n => l06List_any A4 k4 fs B (w.drewN n) (by omega) f4 l4' (i4.below (below_drewN (Below.refl _ _) n)))
  have C4 := Lib.hid (fun (h : fansB fs = true) n => l07Fans_any b 0 A1 k1 xs.length A4 k4 fs B (w.drewN n) (by omega) (fansB_aw h) (by omega) (i4.below (below_drewN (Below.refl _ _) n)) (by simpa using p1))
  have C5 := Lib.hid (fun n => l07Pressures_any b 0 A1 k1 xs.length A5 k5 dr B (w.drewN n) (by omega) (by omega) (i5.below (below_drewN (Below.refl _ _) n)) (by simpa using p1))
  have C6 := Lib.hid (fun W => l00In_any tol 0 100000 W)
  clear i1 i2 i3 i4 i5 f1 f1' f2 f2' f3 f3' f4' f4 f5' f5 l4' l3'
  generalize plantB ⟨J, xs, ds, ls, fs, dr, tol⟩ = R at *
  generalize doorsB J xs ds = b1 at *
  generalize locksB (ds.length : Int) ls = b2 at *
  generalize fansB fs = b3 at *
  generalize hasFB xs.length fs = b4 at *
  generalize (decide ((dr.length : Int) = xs.length) && allIn dr (-100000) 100000) = b5 at *
  generalize inB tol 0 100000 = b6 at *
  cases b1
  · go_enter Try.func75, Try.ntmps75
    go_wp2
    go_big_quiet (first | (go_at_call 124; first | (with_reducible exact quiet_d (C1.out _)) | (with_reducible exact quiet_d2 (C1.out _))) | (go_at_call 125; first | (with_reducible exact quiet_d (C2.out _)) | (with_reducible exact quiet_d2 (C2.out _))) | (go_at_call 126; first | (with_reducible exact quiet_d (C3.out _)) | (with_reducible exact quiet_d2 (C3.out _))))
    go_wp2
    go_ret
    exact ⟨ret_bool (by rw [HP.out]; rfl), _, rfl⟩
  cases b2
  · go_enter Try.func75, Try.ntmps75
    go_wp2
    go_big_quiet (first | (go_at_call 124; first | (with_reducible exact quiet_d (C1.out _)) | (with_reducible exact quiet_d2 (C1.out _))) | (go_at_call 125; first | (with_reducible exact quiet_d (C2.out _)) | (with_reducible exact quiet_d2 (C2.out _))) | (go_at_call 126; first | (with_reducible exact quiet_d (C3.out _)) | (with_reducible exact quiet_d2 (C3.out _))))
    go_wp2
    go_ret
    exact ⟨ret_bool (by rw [HP.out]; rfl), _, rfl⟩
  cases b3
  · go_enter Try.func75, Try.ntmps75
    go_wp2
    go_big_quiet (first | (go_at_call 124; first | (with_reducible exact quiet_d (C1.out _)) | (with_reducible exact quiet_d2 (C1.out _))) | (go_at_call 125; first | (with_reducible exact quiet_d (C2.out _)) | (with_reducible exact quiet_d2 (C2.out _))) | (go_at_call 126; first | (with_reducible exact quiet_d (C3.out _)) | (with_reducible exact quiet_d2 (C3.out _))))
    go_wp2
    go_ret
    exact ⟨ret_bool (by rw [HP.out]; rfl), _, rfl⟩
  have D4 := Lib.hid (C4.out rfl)
  clear C4
  cases b4
  · go_enter Try.func75, Try.ntmps75
    go_wp2
    go_big_quiet (first | (go_at_call 124; first | (with_reducible exact quiet_d (C1.out _)) | (with_reducible exact quiet_d2 (C1.out _))) | (go_at_call 125; first | (with_reducible exact quiet_d (C2.out _)) | (with_reducible exact quiet_d2 (C2.out _))) | (go_at_call 126; first | (with_reducible exact quiet_d (C3.out _)) | (with_reducible exact quiet_d2 (C3.out _))))
    go_wp2
    go_big_quiet (first | (go_at_call 127; first | (with_reducible exact quiet_d (D4.out _)) | (with_reducible exact quiet_d2 (D4.out _))) | (go_at_call 128; first | (with_reducible exact quiet_d (C5.out _)) | (with_reducible exact quiet_d2 (C5.out _))) | (go_at_call 60; first | (with_reducible exact quiet_s (C6.out _)) | (with_reducible exact quiet_s2 (C6.out _))))
    go_wp2
    go_ret
    exact ⟨ret_bool (by rw [HP.out]; rfl), _, (World.drewN_drewN _ _ _).symm⟩
  cases b5
  · go_enter Try.func75, Try.ntmps75
    go_wp2
    go_big_quiet (first | (go_at_call 124; first | (with_reducible exact quiet_d (C1.out _)) | (with_reducible exact quiet_d2 (C1.out _))) | (go_at_call 125; first | (with_reducible exact quiet_d (C2.out _)) | (with_reducible exact quiet_d2 (C2.out _))) | (go_at_call 126; first | (with_reducible exact quiet_d (C3.out _)) | (with_reducible exact quiet_d2 (C3.out _))))
    go_wp2
    go_big_quiet (first | (go_at_call 127; first | (with_reducible exact quiet_d (D4.out _)) | (with_reducible exact quiet_d2 (D4.out _))) | (go_at_call 128; first | (with_reducible exact quiet_d (C5.out _)) | (with_reducible exact quiet_d2 (C5.out _))) | (go_at_call 60; first | (with_reducible exact quiet_s (C6.out _)) | (with_reducible exact quiet_s2 (C6.out _))))
    go_wp2
    go_ret
    exact ⟨ret_bool (by rw [HP.out]; rfl), _, (World.drewN_drewN _ _ _).symm⟩
  go_enter Try.func75, Try.ntmps75
  go_wp2
  go_big_quiet (first | (go_at_call 124; first | (with_reducible exact quiet_d (C1.out _)) | (with_reducible exact quiet_d2 (C1.out _))) | (go_at_call 125; first | (with_reducible exact quiet_d (C2.out _)) | (with_reducible exact quiet_d2 (C2.out _))) | (go_at_call 126; first | (with_reducible exact quiet_d (C3.out _)) | (with_reducible exact quiet_d2 (C3.out _))))
  go_wp2
  go_big_quiet (first | (go_at_call 127; first | (with_reducible exact quiet_d (D4.out _)) | (with_reducible exact quiet_d2 (D4.out _))) | (go_at_call 128; first | (with_reducible exact quiet_d (C5.out _)) | (with_reducible exact quiet_d2 (C5.out _))) | (go_at_call 60; first | (with_reducible exact quiet_s (C6.out _)) | (with_reducible exact quiet_s2 (C6.out _))))
  go_wp2
  go_ret
  exact ⟨ret_bool (by rw [HP.out]; rfl), _, (World.drewN_drewN _ _ _).symm⟩
end Go.Proofs.Ytlgagnbnjfneaaa
