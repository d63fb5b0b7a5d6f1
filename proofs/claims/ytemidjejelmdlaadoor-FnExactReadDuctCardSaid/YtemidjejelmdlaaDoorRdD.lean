/- A task that makes dust read back from its text: by the reference and by the program; and the walk of the law. Conditions: the library's variables lie in memory; the lengths that each theorem names. -/
import Derived.Test.YtemidjejelmdlaaDoorRdJ
import Derived.Test.YtemidjejelmdlaaDoorTxD
import Derived.Deep.RegionHeld3
namespace Go.Proofs.YtemidjejelmdlaaDoor
open Go.RowKit Go.PlainAid
open Pl
theorem put4 {w : World} {b : Nat} {u0 u1 u2 u3 : Value} (v0 v1 v2 v3 : Value) (c0 : w.cell? ⟨b, 0, none⟩ = some u0) (c1 : w.cell? ⟨b, 1, none⟩ = some u1) (c2 : w.cell? ⟨b, 2, none⟩ = some u2) (c3 : w.cell? ⟨b, 3, none⟩ = some u3) :
    ((((w.setCell ⟨b, 0, none⟩ v0).setCell ⟨b, 1, none⟩ v1).setCell ⟨b, 2, none⟩ v2).setCell ⟨b, 3, none⟩ v3).cell? ⟨b, 0, none⟩ = some v0 ∧ ((((w.setCell ⟨b, 0, none⟩ v0).setCell ⟨b, 1, none⟩ v1).setCell ⟨b, 2, none⟩ v2).setCell ⟨b, 3, none⟩ v3).cell? ⟨b, 1, none⟩ = some v1 ∧ ((((w.setCell ⟨b, 0, none⟩ v0).setCell ⟨b, 1, none⟩ v1).setCell ⟨b, 2, none⟩ v2).setCell ⟨b, 3, none⟩ v3).cell? ⟨b, 2, none⟩ = some v2 ∧ ((((w.setCell ⟨b, 0, none⟩ v0).setCell ⟨b, 1, none⟩ v1).setCell ⟨b, 2, none⟩ v2).setCell ⟨b, 3, none⟩ v3).cell? ⟨b, 3, none⟩ = some v3 := by
  have ne : ∀ i j : Nat, i ≠ j → (⟨b, i, none⟩ : Addr) ≠ ⟨b, j, none⟩ := fun i j h e => h (by injection e)
  have e0 : (w.setCell ⟨b, 0, none⟩ v0).cell? ⟨b, 0, none⟩ = some v0 := World.cell?_setCell_same _ _ _ c0
  have o0 : ∀ i u, i ≠ 0 → w.cell? ⟨b, i, none⟩ = some u → (w.setCell ⟨b, 0, none⟩ v0).cell? ⟨b, i, none⟩ = some u := fun i u hi h => (World.cell?_setCell_other _ _ _ _ (ne 0 i (Ne.symm hi))).trans h
  have e1 : ((w.setCell ⟨b, 0, none⟩ v0).setCell ⟨b, 1, none⟩ v1).cell? ⟨b, 1, none⟩ = some v1 := World.cell?_setCell_same _ _ _ (o0 1 _ (by decide) c1)
  have o1 : ∀ i u, i ≠ 1 → (w.setCell ⟨b, 0, none⟩ v0).cell? ⟨b, i, none⟩ = some u → ((w.setCell ⟨b, 0, none⟩ v0).setCell ⟨b, 1, none⟩ v1).cell? ⟨b, i, none⟩ = some u := fun i u hi h => (World.cell?_setCell_other _ _ _ _ (ne 1 i (Ne.symm hi))).trans h
  have e2 : (((w.setCell ⟨b, 0, none⟩ v0).setCell ⟨b, 1, none⟩ v1).setCell ⟨b, 2, none⟩ v2).cell? ⟨b, 2, none⟩ = some v2 := World.cell?_setCell_same _ _ _ (o1 2 _ (by decide) (o0 2 _ (by decide) c2))
  have o2 : ∀ i u, i ≠ 2 → ((w.setCell ⟨b, 0, none⟩ v0).setCell ⟨b, 1, none⟩ v1).cell? ⟨b, i, none⟩ = some u → (((w.setCell ⟨b, 0, none⟩ v0).setCell ⟨b, 1, none⟩ v1).setCell ⟨b, 2, none⟩ v2).cell? ⟨b, i, none⟩ = some u := fun i u hi h => (World.cell?_setCell_other _ _ _ _ (ne 2 i (Ne.symm hi))).trans h
  have o3 : ∀ i u, i ≠ 3 → (((w.setCell ⟨b, 0, none⟩ v0).setCell ⟨b, 1, none⟩ v1).setCell ⟨b, 2, none⟩ v2).cell? ⟨b, i, none⟩ = some u → ((((w.setCell ⟨b, 0, none⟩ v0).setCell ⟨b, 1, none⟩ v1).setCell ⟨b, 2, none⟩ v2).setCell ⟨b, 3, none⟩ v3).cell? ⟨b, i, none⟩ = some u := fun i u hi h => (World.cell?_setCell_other _ _ _ _ (ne 3 i (Ne.symm hi))).trans h
  exact ⟨o3 0 _ (by decide) (o2 0 _ (by decide) (o1 0 _ (by decide) e0)), o3 1 _ (by decide) (o2 1 _ (by decide) e1), o3 2 _ (by decide) e2, World.cell?_setCell_same _ _ _ (o2 3 _ (by decide) (o1 3 _ (by decide) (o0 3 _ (by decide) c3)))⟩
theorem own_row {base : Nat} {w : World} {A : Option Addr} {n c : Nat} {xs : List Int} (h : Own base w (.slice A n c) xs) (hn : 0 < n) (hl : xs.length = n) : ∃ g, A = some ⟨g, 0, none⟩ ∧ base ≤ g ∧ w.ownsRow base 2 1 (.slice (some ⟨g, 0, none⟩) n c) n (vals xs) := by
  rcases h.form with ⟨he, hx⟩ | ⟨g, c', he, hg1, hg2⟩
  · injection he; omega
  · injection he with e1 e2 e3
    subst e1
    refine ⟨g, rfl, hg1, ?_⟩
    unfold Own at h
    rw [hl] at h
    exact h
/-- A task's text; its numbers. -/
def rdB (l : List UInt8) : Bool := readB l && (decide ((readV l).length = 4) && dustingB ((readV l).getD 0 0) ((readV l).getD 1 0) ((readV l).getD 2 0) ((readV l).getD 3 0))
def rd4 (l : List UInt8) (i : Nat) : Int := if rdB l then (readV l).getD i 0 else 0
theorem rd4_no {l : List UInt8} (h : rdB l = false) (i : Nat) : rd4 l i = 0 := by unfold rd4; rw [h]; rfl
theorem rd4_yes {l : List UInt8} (h : rdB l = true) (i : Nat) : rd4 l i = (readV l).getD i 0 := by unfold rd4; rw [h]; rfl
theorem four {xs : List Int} (h : xs.length = 4) : xs = [xs.getD 0 0, xs.getD 1 0, xs.getD 2 0, xs.getD 3 0] := by
  match xs, h with
  | [a, b, c, d], _ => rfl
set_option maxRecDepth 100000 in
set_option maxHeartbeats 1600000 in
theorem l14Read_any (s : ByteArray) (w : World) (hs : s.size ≤ 1048576) :
    Calls Tryd.prog 40 #[.string s] w fun e w' => e = .returned (.tuple #[.agg #[.int .i64 (rd4 s.data.toList 0), .int .i64 (rd4 s.data.toList 1), .int .i64 (rd4 s.data.toList 2), .int .i64 (rd4 s.data.toList 3)], .bool (rdB s.data.toList)]) ∧ Below w.heap.size w w' := by
  have be0 : Below w.heap.size w (w.alloc (.cells #[.int .i64 0, .int .i64 0, .int .i64 0, .int .i64 0] 25)) := by go_grown
  have z0_0 : ((w.alloc (.cells #[.int .i64 0, .int .i64 0, .int .i64 0, .int .i64 0] 25))).cell? ⟨w.heap.size, 0, none⟩ = some (.int .i64 0) := by go_simp
  have z1_0 : ((w.alloc (.cells #[.int .i64 0, .int .i64 0, .int .i64 0, .int .i64 0] 25))).cell? ⟨w.heap.size, 1, none⟩ = some (.int .i64 0) := by go_simp
  have z2_0 : ((w.alloc (.cells #[.int .i64 0, .int .i64 0, .int .i64 0, .int .i64 0] 25))).cell? ⟨w.heap.size, 2, none⟩ = some (.int .i64 0) := by go_simp
  have z3_0 : ((w.alloc (.cells #[.int .i64 0, .int .i64 0, .int .i64 0, .int .i64 0] 25))).cell? ⟨w.heap.size, 3, none⟩ = some (.int .i64 0) := by go_simp
  have f_0 : ∀ i, ((w.alloc (.cells #[.int .i64 0, .int .i64 0, .int .i64 0, .int .i64 0] 25))).frozen? ⟨w.heap.size, i, none⟩ = false := fun i => by go_simp
  have lt0 : w.heap.size < ((w.alloc (.cells #[.int .i64 0, .int .i64 0, .int .i64 0, .int .i64 0] 25))).heap.size := by simp
  have HL := Lib.hid (fun W => ReadList_s s W hs)
  have HVB := Lib.hid (fun h => readV_bd (l := s.data.toList) h)
  generalize s.data.toList = l at *
  cases hr : readB l
  · have hrd : rdB l = false := by unfold rdB; rw [hr]; rfl
    have HZ := Lib.hid (rd4_no hrd)
    rw [HZ.out, HZ.out, HZ.out, HZ.out, hrd]
    have HE := Lib.hid (readL_no hr)
    rw [hr, HE.out] at HL
    clear hr hrd HZ HVB
    go_enter Tryd.func40, Tryd.ntmps40
    go_wp2_with fail
    generalize (w.alloc (.cells #[.int .i64 0, .int .i64 0, .int .i64 0, .int .i64 0] 25)) = w0 at *
    refine (HL.out _).mono ?_
    rintro e w1 ⟨u, rfl, ho, hb1⟩
    (have cl1 := (bcell hb1)); have z0_1 := cell_later hb1 z0_0; have z1_1 := cell_later hb1 z1_0; have z2_1 := cell_later hb1 z2_0; have z3_1 := cell_later hb1 z3_0; have f0_1 := (cl1.2 _ 0 lt0).trans (f_0 0); have f1_1 := (cl1.2 _ 1 lt0).trans (f_0 1); have f2_1 := (cl1.2 _ 2 lt0).trans (f_0 2); have f3_1 := (cl1.2 _ 3 lt0).trans (f_0 3); have be1 := be0.trans (hb1.mono be0.size); clear cl1 z0_0 z1_0 z2_0 z3_0
    clear ho
    go_wp2_with fail
    obtain ⟨r0, r1, r2, r3⟩ := put4 (.int .i64 0) (.int .i64 0) (.int .i64 0) (.int .i64 0) z0_1 z1_1 z2_1 z3_1
    exact bodyPost_ret (v := .tuple #[.agg #[.int .i64 0, .int .i64 0, .int .i64 0, .int .i64 0], .bool false]) (by simp [results, Tryd.results40, go_sem, r0, r1, r2, r3]) rfl ⟨rfl, (((be1.setCell (by simp) _).setCell (by simp) _).setCell (by simp) _).setCell (by simp) _⟩
  have HE := Lib.hid (readL_yes hr)
  rw [hr, HE.out] at HL
  have hbd := HVB.out hr
  have HRD : Hid (rdB l = (decide ((readV l).length = 4) && dustingB ((readV l).getD 0 0) ((readV l).getD 1 0) ((readV l).getD 2 0) ((readV l).getD 3 0))) := Lib.hid (by unfold rdB; rw [hr]; rfl)
  by_cases h4 : (readV l).length = 4
  rotate_left
  · have hrd : rdB l = false := by rw [HRD.out, decide_eq_false h4]; rfl
    have HZ := Lib.hid (rd4_no hrd)
    rw [HZ.out, HZ.out, HZ.out, HZ.out, hrd]
    clear hr hrd HZ HVB HRD HE hbd
    generalize readV l = xs at *
    go_enter Tryd.func40, Tryd.ntmps40
    go_wp2_with fail
    generalize (w.alloc (.cells #[.int .i64 0, .int .i64 0, .int .i64 0, .int .i64 0] 25)) = w0 at *
    refine (HL.out _).mono ?_
    rintro e w1 ⟨u, rfl, ho, hb1⟩
    obtain ⟨AL, cl, rfl, -, -⟩ := ho.slice
    have h4b : ((xs.length : Int) == 4) = false := by rw [beq_eq_false_iff_ne]; omega
    (have cl1 := (bcell hb1)); have z0_1 := cell_later hb1 z0_0; have z1_1 := cell_later hb1 z1_0; have z2_1 := cell_later hb1 z2_0; have z3_1 := cell_later hb1 z3_0; have f0_1 := (cl1.2 _ 0 lt0).trans (f_0 0); have f1_1 := (cl1.2 _ 1 lt0).trans (f_0 1); have f2_1 := (cl1.2 _ 2 lt0).trans (f_0 2); have f3_1 := (cl1.2 _ 3 lt0).trans (f_0 3); have be1 := be0.trans (hb1.mono be0.size); clear cl1 z0_0 z1_0 z2_0 z3_0
    clear ho h4
    go_wp2_with fail
    obtain ⟨r0, r1, r2, r3⟩ := put4 (.int .i64 0) (.int .i64 0) (.int .i64 0) (.int .i64 0) z0_1 z1_1 z2_1 z3_1
    exact bodyPost_ret (v := .tuple #[.agg #[.int .i64 0, .int .i64 0, .int .i64 0, .int .i64 0], .bool false]) (by simp [results, Tryd.results40, go_sem, r0, r1, r2, r3]) rfl ⟨rfl, (((be1.setCell (by simp) _).setCell (by simp) _).setCell (by simp) _).setCell (by simp) _⟩
  have Y0 := Lib.hid (fun h => rd4_yes (l := l) h 0)
  have Y1 := Lib.hid (fun h => rd4_yes (l := l) h 1)
  have Y2 := Lib.hid (fun h => rd4_yes (l := l) h 2)
  have Y3 := Lib.hid (fun h => rd4_yes (l := l) h 3)
  have HNZ : Hid (rdB l = false → ∀ i, rd4 l i = 0) := Lib.hid (fun h i => rd4_no h i)
  rw [decide_eq_true h4, Bool.true_and] at HRD
  have hx4 := four h4
  generalize (readV l).getD 0 0 = a at *
  generalize (readV l).getD 1 0 = f at *
  generalize (readV l).getD 2 0 = t at *
  generalize (readV l).getD 3 0 = d at *
  rw [hx4] at HL hbd
  have HOne := Lib.hid (fun b W h0 h1 h2 h3 => (l14One_any b 0 a f t d W h0 h1 h2 h3).mono (fun e w' (h : _ ∧ ∃ n, W.drewN n = w') => (⟨h.1, by obtain ⟨_, n, rfl⟩ := h; exact below_drewN (Below.refl _ _) n⟩ : _ ∧ Below W.heap.size W w')))
  clear h4 hx4 hr HVB HE hbd
  cases hdb : dustingB a f t d
  · have hrd : rdB l = false := by rw [HRD.out]; exact hdb
    rw [HNZ.out hrd, HNZ.out hrd, HNZ.out hrd, HNZ.out hrd, hrd]
    rw [hdb] at HOne
    clear hrd hdb HNZ HRD Y0 Y1 Y2 Y3
    go_enter Tryd.func40, Tryd.ntmps40
    go_wp2_with fail
    generalize (w.alloc (.cells #[.int .i64 0, .int .i64 0, .int .i64 0, .int .i64 0] 25)) = w0 at *
    refine (HL.out _).mono ?_
    rintro e w1 ⟨u, rfl, ho, hb1⟩
    obtain ⟨AL, cl, hu, -, -⟩ := ho.slice
    have hu : u = .slice AL 4 cl := hu
    subst hu
    obtain ⟨g, rfl, hg, hrow⟩ := own_row (n := 4) ho (by omega) rfl
    have g0 : w1.cell? ⟨g, 0, none⟩ = some (.int .i64 a) := World.ownsRow.cellAt hrow 0 (by omega)
    have g1 : w1.cell? ⟨g, 1, none⟩ = some (.int .i64 f) := World.ownsRow.cellAt hrow 1 (by omega)
    have g2 : w1.cell? ⟨g, 2, none⟩ = some (.int .i64 t) := World.ownsRow.cellAt hrow 2 (by omega)
    have g3 : w1.cell? ⟨g, 3, none⟩ = some (.int .i64 d) := World.ownsRow.cellAt hrow 3 (by omega)
    (have cl1 := (bcell hb1)); have z0_1 := cell_later hb1 z0_0; have z1_1 := cell_later hb1 z1_0; have z2_1 := cell_later hb1 z2_0; have z3_1 := cell_later hb1 z3_0; have f0_1 := (cl1.2 _ 0 lt0).trans (f_0 0); have f1_1 := (cl1.2 _ 1 lt0).trans (f_0 1); have f2_1 := (cl1.2 _ 2 lt0).trans (f_0 2); have f3_1 := (cl1.2 _ 3 lt0).trans (f_0 3); have be1 := be0.trans (hb1.mono be0.size); clear cl1 z0_0 z1_0 z2_0 z3_0
    have lt1 : w.heap.size < w1.heap.size := Nat.lt_of_lt_of_le lt0 hb1.size
    clear ho hrow
    go_wp2_with fail
    go_region_held3 (fun w' => w'.cell? ⟨g, 0, none⟩ = some (.int .i64 a) ∧ w'.cell? ⟨g, 1, none⟩ = some (.int .i64 f) ∧ w'.cell? ⟨g, 2, none⟩ = some (.int .i64 t) ∧ w'.cell? ⟨g, 3, none⟩ = some (.int .i64 d))
      (first
        | go_keep
        | exact ⟨Lib.cell?_alloc_some _ g0, Lib.cell?_alloc_some _ g1, Lib.cell?_alloc_some _ g2, Lib.cell?_alloc_some _ g3⟩)
      (first | fail)
    have hb2 : Below w1.heap.size w1 ((w1.alloc (.cells #[.int .i64 a, .int .i64 f, .int .i64 t, .int .i64 d] 25)).drew) := Below.drew ((Below.refl _ _).alloc (Nat.le_refl _) _)
    have c0_2 : (((w1.alloc (.cells #[.int .i64 a, .int .i64 f, .int .i64 t, .int .i64 d] 25)).drew)).cell? ⟨w1.heap.size, 0, none⟩ = some (.int .i64 a) := by go_simp
    have c1_2 : (((w1.alloc (.cells #[.int .i64 a, .int .i64 f, .int .i64 t, .int .i64 d] 25)).drew)).cell? ⟨w1.heap.size, 1, none⟩ = some (.int .i64 f) := by go_simp
    have c2_2 : (((w1.alloc (.cells #[.int .i64 a, .int .i64 f, .int .i64 t, .int .i64 d] 25)).drew)).cell? ⟨w1.heap.size, 2, none⟩ = some (.int .i64 t) := by go_simp
    have c3_2 : (((w1.alloc (.cells #[.int .i64 a, .int .i64 f, .int .i64 t, .int .i64 d] 25)).drew)).cell? ⟨w1.heap.size, 3, none⟩ = some (.int .i64 d) := by go_simp
    generalize ((w1.alloc (.cells #[.int .i64 a, .int .i64 f, .int .i64 t, .int .i64 d] 25)).drew) = w2 at *
    have cl2 := bcell hb2
    have z0_2 := cell_later hb2 z0_1
    have z1_2 := cell_later hb2 z1_1
    have z2_2 := cell_later hb2 z2_1
    have z3_2 := cell_later hb2 z3_1
    have f0_2 := (cl2.2 _ 0 lt1).trans f0_1
    have f1_2 := (cl2.2 _ 1 lt1).trans f1_1
    have f2_2 := (cl2.2 _ 2 lt1).trans f2_1
    have f3_2 := (cl2.2 _ 3 lt1).trans f3_1
    have be2 := be1.trans (hb2.mono be1.size)
    have lt2 : w.heap.size < w2.heap.size := Nat.lt_of_lt_of_le lt1 hb2.size
    clear cl2 z0_1 z1_1 z2_1 z3_1 f0_1 f1_1 f2_1 f3_1 g0 g1 g2 g3 f_0
    go_wp2_with fail
    refine (HOne.out w1.heap.size _ c0_2 c1_2 c2_2 c3_2).mono ?_
    rintro e w3 ⟨rfl, hb3⟩
    have cl3 := bcell hb3
    have z0_3 := cell_later hb3 z0_2
    have z1_3 := cell_later hb3 z1_2
    have z2_3 := cell_later hb3 z2_2
    have z3_3 := cell_later hb3 z3_2
    have c0_3 := cell_later hb3 c0_2
    have c1_3 := cell_later hb3 c1_2
    have c2_3 := cell_later hb3 c2_2
    have c3_3 := cell_later hb3 c3_2
    have f0_3 := (cl3.2 _ 0 lt2).trans f0_2
    have f1_3 := (cl3.2 _ 1 lt2).trans f1_2
    have f2_3 := (cl3.2 _ 2 lt2).trans f2_2
    have f3_3 := (cl3.2 _ 3 lt2).trans f3_2
    have be3 := be2.trans (hb3.mono be2.size)
    clear cl3 z0_2 z1_2 z2_2 z3_2 f0_2 f1_2 f2_2 f3_2 c0_2 c1_2 c2_2 c3_2
    go_wp2_with fail
    obtain ⟨r0, r1, r2, r3⟩ := put4 (.int .i64 0) (.int .i64 0) (.int .i64 0) (.int .i64 0) z0_3 z1_3 z2_3 z3_3
    exact bodyPost_ret (v := .tuple #[.agg #[.int .i64 0, .int .i64 0, .int .i64 0, .int .i64 0], .bool false]) (by simp [results, Tryd.results40, go_sem, r0, r1, r2, r3]) rfl ⟨rfl, (((be3.setCell (by simp) _).setCell (by simp) _).setCell (by simp) _).setCell (by simp) _⟩
  · have hrd : rdB l = true := by rw [HRD.out]; exact hdb
    rw [Y0.out hrd, Y1.out hrd, Y2.out hrd, Y3.out hrd, hrd]
    rw [hdb] at HOne
    clear hrd hdb HNZ HRD Y0 Y1 Y2 Y3
    go_enter Tryd.func40, Tryd.ntmps40
    go_wp2_with fail
    generalize (w.alloc (.cells #[.int .i64 0, .int .i64 0, .int .i64 0, .int .i64 0] 25)) = w0 at *
    refine (HL.out _).mono ?_
    rintro e w1 ⟨u, rfl, ho, hb1⟩
    obtain ⟨AL, cl, hu, -, -⟩ := ho.slice
    have hu : u = .slice AL 4 cl := hu
    subst hu
    obtain ⟨g, rfl, hg, hrow⟩ := own_row (n := 4) ho (by omega) rfl
    have g0 : w1.cell? ⟨g, 0, none⟩ = some (.int .i64 a) := World.ownsRow.cellAt hrow 0 (by omega)
    have g1 : w1.cell? ⟨g, 1, none⟩ = some (.int .i64 f) := World.ownsRow.cellAt hrow 1 (by omega)
    have g2 : w1.cell? ⟨g, 2, none⟩ = some (.int .i64 t) := World.ownsRow.cellAt hrow 2 (by omega)
    have g3 : w1.cell? ⟨g, 3, none⟩ = some (.int .i64 d) := World.ownsRow.cellAt hrow 3 (by omega)
    (have cl1 := (bcell hb1)); have z0_1 := cell_later hb1 z0_0; have z1_1 := cell_later hb1 z1_0; have z2_1 := cell_later hb1 z2_0; have z3_1 := cell_later hb1 z3_0; have f0_1 := (cl1.2 _ 0 lt0).trans (f_0 0); have f1_1 := (cl1.2 _ 1 lt0).trans (f_0 1); have f2_1 := (cl1.2 _ 2 lt0).trans (f_0 2); have f3_1 := (cl1.2 _ 3 lt0).trans (f_0 3); have be1 := be0.trans (hb1.mono be0.size); clear cl1 z0_0 z1_0 z2_0 z3_0
    have lt1 : w.heap.size < w1.heap.size := Nat.lt_of_lt_of_le lt0 hb1.size
    clear ho hrow
    go_wp2_with fail
    go_region_held3 (fun w' => w'.cell? ⟨g, 0, none⟩ = some (.int .i64 a) ∧ w'.cell? ⟨g, 1, none⟩ = some (.int .i64 f) ∧ w'.cell? ⟨g, 2, none⟩ = some (.int .i64 t) ∧ w'.cell? ⟨g, 3, none⟩ = some (.int .i64 d))
      (first
        | go_keep
        | exact ⟨Lib.cell?_alloc_some _ g0, Lib.cell?_alloc_some _ g1, Lib.cell?_alloc_some _ g2, Lib.cell?_alloc_some _ g3⟩)
      (first | fail)
    have hb2 : Below w1.heap.size w1 ((w1.alloc (.cells #[.int .i64 a, .int .i64 f, .int .i64 t, .int .i64 d] 25)).drew) := Below.drew ((Below.refl _ _).alloc (Nat.le_refl _) _)
    have c0_2 : (((w1.alloc (.cells #[.int .i64 a, .int .i64 f, .int .i64 t, .int .i64 d] 25)).drew)).cell? ⟨w1.heap.size, 0, none⟩ = some (.int .i64 a) := by go_simp
    have c1_2 : (((w1.alloc (.cells #[.int .i64 a, .int .i64 f, .int .i64 t, .int .i64 d] 25)).drew)).cell? ⟨w1.heap.size, 1, none⟩ = some (.int .i64 f) := by go_simp
    have c2_2 : (((w1.alloc (.cells #[.int .i64 a, .int .i64 f, .int .i64 t, .int .i64 d] 25)).drew)).cell? ⟨w1.heap.size, 2, none⟩ = some (.int .i64 t) := by go_simp
    have c3_2 : (((w1.alloc (.cells #[.int .i64 a, .int .i64 f, .int .i64 t, .int .i64 d] 25)).drew)).cell? ⟨w1.heap.size, 3, none⟩ = some (.int .i64 d) := by go_simp
    generalize ((w1.alloc (.cells #[.int .i64 a, .int .i64 f, .int .i64 t, .int .i64 d] 25)).drew) = w2 at *
    have cl2 := bcell hb2
    have z0_2 := cell_later hb2 z0_1
    have z1_2 := cell_later hb2 z1_1
    have z2_2 := cell_later hb2 z2_1
    have z3_2 := cell_later hb2 z3_1
    have f0_2 := (cl2.2 _ 0 lt1).trans f0_1
    have f1_2 := (cl2.2 _ 1 lt1).trans f1_1
    have f2_2 := (cl2.2 _ 2 lt1).trans f2_1
    have f3_2 := (cl2.2 _ 3 lt1).trans f3_1
    have be2 := be1.trans (hb2.mono be1.size)
    have lt2 : w.heap.size < w2.heap.size := Nat.lt_of_lt_of_le lt1 hb2.size
    clear cl2 z0_1 z1_1 z2_1 z3_1 f0_1 f1_1 f2_1 f3_1 g0 g1 g2 g3 f_0
    go_wp2_with fail
    refine (HOne.out w1.heap.size _ c0_2 c1_2 c2_2 c3_2).mono ?_
    rintro e w3 ⟨rfl, hb3⟩
    have cl3 := bcell hb3
    have z0_3 := cell_later hb3 z0_2
    have z1_3 := cell_later hb3 z1_2
    have z2_3 := cell_later hb3 z2_2
    have z3_3 := cell_later hb3 z3_2
    have c0_3 := cell_later hb3 c0_2
    have c1_3 := cell_later hb3 c1_2
    have c2_3 := cell_later hb3 c2_2
    have c3_3 := cell_later hb3 c3_2
    have f0_3 := (cl3.2 _ 0 lt2).trans f0_2
    have f1_3 := (cl3.2 _ 1 lt2).trans f1_2
    have f2_3 := (cl3.2 _ 2 lt2).trans f2_2
    have f3_3 := (cl3.2 _ 3 lt2).trans f3_2
    have be3 := be2.trans (hb3.mono be2.size)
    clear cl3 z0_2 z1_2 z2_2 z3_2 f0_2 f1_2 f2_2 f3_2 c0_2 c1_2 c2_2 c3_2
    go_wp2_with fail
    obtain ⟨r0, r1, r2, r3⟩ := put4 (.int .i64 a) (.int .i64 f) (.int .i64 t) (.int .i64 d) z0_3 z1_3 z2_3 z3_3
    exact bodyPost_ret (v := .tuple #[.agg #[.int .i64 a, .int .i64 f, .int .i64 t, .int .i64 d], .bool true]) (by simp [results, Tryd.results40, go_sem, r0, r1, r2, r3]) rfl ⟨rfl, (((be3.setCell (by simp) _).setCell (by simp) _).setCell (by simp) _).setCell (by simp) _⟩
end Go.Proofs.YtemidjejelmdlaaDoor
