/- A task that makes dust read back from its text, by the program; and the walk of the law. Conditions: the library's variables lie in memory; the lengths that each theorem names. -/
import Derived.Test.YtemidjejelmdlaaDoorRdK
namespace Go.Proofs.YtemidjejelmdlaaDoor
open Go.RowKit Go.PlainAid
open Pl
theorem rdB_nm (l : List UInt8) : rdB l = (nmB l 4 && dustingB ((nmL l 4).getD 0 0) ((nmL l 4).getD 1 0) ((nmL l 4).getD 2 0) ((nmL l 4).getD 3 0)) := by
  cases h : nmB l 4
  · unfold rdB
    unfold nmB at h
    rw [Bool.and_eq_false_iff] at h
    rcases h with h | h
    · rw [h]; rfl
    · rw [h]; simp
  · rw [nmL_yes h]
    obtain ⟨h1, h2⟩ := nmB_parts h
    unfold rdB
    rw [h1, decide_eq_true h2]
    rfl
theorem rd4_nm {l : List UInt8} (h : rdB l = true) (i : Nat) : rd4 l i = (nmL l 4).getD i 0 := by
  rw [rd4_yes h]
  have hn : nmB l 4 = true := by
    rw [rdB_nm, Bool.and_eq_true] at h
    exact h.1
  rw [nmL_yes hn]
set_option maxRecDepth 100000 in
set_option maxHeartbeats 3200000 in
theorem ReadDusting_i (s : ByteArray) (w : World) (hs : s.size ≤ 1048576) (hLi : Lies w) :
    Calls Tryd.prog 21 #[.string s] w fun e w' => e = .returned (.tuple #[.agg #[.int .i64 (rd4 s.data.toList 0), .int .i64 (rd4 s.data.toList 1), .int .i64 (rd4 s.data.toList 2), .int .i64 (rd4 s.data.toList 3)], .bool (rdB s.data.toList)]) ∧ Below w.heap.size w w' := by
  have be0 : Below w.heap.size w (w.alloc (.cells #[.int .i64 0, .int .i64 0, .int .i64 0, .int .i64 0] 25)) := by go_grown
  have z0_0 : ((w.alloc (.cells #[.int .i64 0, .int .i64 0, .int .i64 0, .int .i64 0] 25))).cell? ⟨w.heap.size, 0, none⟩ = some (.int .i64 0) := by go_simp
  have z1_0 : ((w.alloc (.cells #[.int .i64 0, .int .i64 0, .int .i64 0, .int .i64 0] 25))).cell? ⟨w.heap.size, 1, none⟩ = some (.int .i64 0) := by go_simp
  have z2_0 : ((w.alloc (.cells #[.int .i64 0, .int .i64 0, .int .i64 0, .int .i64 0] 25))).cell? ⟨w.heap.size, 2, none⟩ = some (.int .i64 0) := by go_simp
  have z3_0 : ((w.alloc (.cells #[.int .i64 0, .int .i64 0, .int .i64 0, .int .i64 0] 25))).cell? ⟨w.heap.size, 3, none⟩ = some (.int .i64 0) := by go_simp
  have f_0 : ∀ i, ((w.alloc (.cells #[.int .i64 0, .int .i64 0, .int .i64 0, .int .i64 0] 25))).frozen? ⟨w.heap.size, i, none⟩ = false := fun i => by go_simp
  have lt0 : w.heap.size < ((w.alloc (.cells #[.int .i64 0, .int .i64 0, .int .i64 0, .int .i64 0] 25))).heap.size := by simp
  have HL := Lib.hid (fun W (hb : Below w.heap.size w W) => readNumbers_any s 4 W hs (by omega) (hLi.later hb))
  have hx4 := four (nmL_len s.data.toList 4)
  have hfit := nmL_fits s.data.toList 4
  have HRD := Lib.hid (rdB_nm s.data.toList)
  have Y0 := Lib.hid (fun h => rd4_nm (l := s.data.toList) h 0)
  have Y1 := Lib.hid (fun h => rd4_nm (l := s.data.toList) h 1)
  have Y2 := Lib.hid (fun h => rd4_nm (l := s.data.toList) h 2)
  have Y3 := Lib.hid (fun h => rd4_nm (l := s.data.toList) h 3)
  have HNZ : Hid (rdB s.data.toList = false → ∀ i, rd4 s.data.toList i = 0) := Lib.hid (fun h i => rd4_no h i)
  have HTX : Hid (nmB s.data.toList 4 = true → listT (nmL s.data.toList 4) = s.data.toList ∧ s.data.toList ≠ []) := Lib.hid (fun h => by
    rw [nmL_yes h]
    exact ⟨(readB_text (nmB_parts h).1).1, readB_ne (nmB_parts h).1⟩)
  generalize (nmL s.data.toList 4).getD 0 0 = a at *
  generalize (nmL s.data.toList 4).getD 1 0 = f at *
  generalize (nmL s.data.toList 4).getD 2 0 = t at *
  generalize (nmL s.data.toList 4).getD 3 0 = d at *
  rw [hx4] at HL hfit HTX
  obtain ⟨X, hX⟩ : ∃ X : ByteArray, X = ⟨(dustT a f t d).toArray⟩ := ⟨_, rfl⟩
  have HT : Hid (∀ W, Below w.heap.size w W → Calls Tryd.prog 11 #[.agg #[.int .i64 a, .int .i64 f, .int .i64 t, .int .i64 d]] W fun e w' => e = .returned (.string X) ∧ Below W.heap.size W w') := Lib.hid (fun W hb => by rw [hX]; exact DustingText_i a f t d W hfit (hLi.later hb).tab)
  clear hx4 hfit hLi
  cases hnm : nmB s.data.toList 4
  · have hrd : rdB s.data.toList = false := by rw [HRD.out, hnm]; rfl
    rw [HNZ.out hrd, HNZ.out hrd, HNZ.out hrd, HNZ.out hrd, hrd]
    rw [hnm] at HL
    clear hrd hnm HNZ HRD Y0 Y1 Y2 Y3 HTX HT hX
    go_enter Tryd.func21, Tryd.ntmps21
    go_wp2_with fail
    generalize (w.alloc (.cells #[.int .i64 0, .int .i64 0, .int .i64 0, .int .i64 0] 25)) = w0 at *
    refine (HL.out _ be0).mono ?_
    rintro e w1 ⟨u, rfl, ho, hb1⟩
    obtain ⟨AL, cl, hu, -, -⟩ := ho.slice
    have hu : u = .slice AL 4 cl := hu
    subst hu
    obtain ⟨g, rfl, hg, hrow⟩ := own_row (n := 4) ho (by omega) rfl
    have g0 : w1.cell? ⟨g, 0, none⟩ = some (.int .i64 a) := World.ownsRow.cellAt hrow 0 (by omega)
    have g1 : w1.cell? ⟨g, 1, none⟩ = some (.int .i64 f) := World.ownsRow.cellAt hrow 1 (by omega)
    have g2 : w1.cell? ⟨g, 2, none⟩ = some (.int .i64 t) := World.ownsRow.cellAt hrow 2 (by omega)
    have g3 : w1.cell? ⟨g, 3, none⟩ = some (.int .i64 d) := World.ownsRow.cellAt hrow 3 (by omega)
    (have cl1 := (bcell hb1)); have z0_1 := cell_later hb1 z0_0; have z1_1 := cell_later hb1 z1_0; have z2_1 := cell_later hb1 z2_0; have z3_1 := cell_later hb1 z3_0; have f0_1 := (cl1.2 _ 0 lt0).trans (f_0 0); have f1_1 := (cl1.2 _ 1 lt0).trans (f_0 1); have f2_1 := (cl1.2 _ 2 lt0).trans (f_0 2); have f3_1 := (cl1.2 _ 3 lt0).trans (f_0 3); have be1 := be0.trans (hb1.mono be0.size); clear cl1 z0_0 z1_0 z2_0 z3_0
    have lt1 : w.heap.size < w1.heap.size := Nat.lt_of_lt_of_le lt0 hb1.size
    clear ho hrow
    go_wp2_with fail
    go_region_held3 (fun w' => w'.cell? ⟨g, 0, none⟩ = some (.int .i64 a) ∧ w'.cell? ⟨g, 1, none⟩ = some (.int .i64 f) ∧ w'.cell? ⟨g, 2, none⟩ = some (.int .i64 t) ∧ w'.cell? ⟨g, 3, none⟩ = some (.int .i64 d))
      (first
        | go_keep
        | exact ⟨Lib.cell?_alloc_some _ g0, Lib.cell?_alloc_some _ g1, Lib.cell?_alloc_some _ g2, Lib.cell?_alloc_some _ g3⟩)
      (first | fail)
    have hb2 : Below w1.heap.size w1 ((w1.alloc (.cells #[.int .i64 a, .int .i64 f, .int .i64 t, .int .i64 d] 25)).drew) := Below.drew ((Below.refl _ _).alloc (Nat.le_refl _) _)
    have c0_2 : (((w1.alloc (.cells #[.int .i64 a, .int .i64 f, .int .i64 t, .int .i64 d] 25)).drew)).cell? ⟨w1.heap.size, 0, none⟩ = some (.int .i64 a) := by go_simp
    have c1_2 : (((w1.alloc (.cells #[.int .i64 a, .int .i64 f, .int .i64 t, .int .i64 d] 25)).drew)).cell? ⟨w1.heap.size, 1, none⟩ = some (.int .i64 f) := by go_simp
    have c2_2 : (((w1.alloc (.cells #[.int .i64 a, .int .i64 f, .int .i64 t, .int .i64 d] 25)).drew)).cell? ⟨w1.heap.size, 2, none⟩ = some (.int .i64 t) := by go_simp
    have c3_2 : (((w1.alloc (.cells #[.int .i64 a, .int .i64 f, .int .i64 t, .int .i64 d] 25)).drew)).cell? ⟨w1.heap.size, 3, none⟩ = some (.int .i64 d) := by go_simp
    generalize ((w1.alloc (.cells #[.int .i64 a, .int .i64 f, .int .i64 t, .int .i64 d] 25)).drew) = w2 at *
    have cl2 := bcell hb2
    have z0_2 := cell_later hb2 z0_1
    have z1_2 := cell_later hb2 z1_1
    have z2_2 := cell_later hb2 z2_1
    have z3_2 := cell_later hb2 z3_1
    have f0_2 := (cl2.2 _ 0 lt1).trans f0_1
    have f1_2 := (cl2.2 _ 1 lt1).trans f1_1
    have f2_2 := (cl2.2 _ 2 lt1).trans f2_1
    have f3_2 := (cl2.2 _ 3 lt1).trans f3_1
    have be2 := be1.trans (hb2.mono be1.size)
    have lt2 : w.heap.size < w2.heap.size := Nat.lt_of_lt_of_le lt1 hb2.size
    clear cl2 z0_1 z1_1 z2_1 z3_1 f0_1 f1_1 f2_1 f3_1 g0 g1 g2 g3 f_0
    go_wp2_with fail
    obtain ⟨r0, r1, r2, r3⟩ := put4 (.int .i64 0) (.int .i64 0) (.int .i64 0) (.int .i64 0) z0_2 z1_2 z2_2 z3_2
    exact bodyPost_ret (v := .tuple #[.agg #[.int .i64 0, .int .i64 0, .int .i64 0, .int .i64 0], .bool false]) (by simp [results, Tryd.results21, go_sem, r0, r1, r2, r3]) rfl ⟨rfl, (((be2.setCell (by simp) _).setCell (by simp) _).setCell (by simp) _).setCell (by simp) _⟩
  rw [hnm] at HL
  obtain ⟨hl1, hl2⟩ := HTX.out hnm
  rw [hnm, Bool.true_and] at HRD
  cases hdb : dustingB a f t d
  · have hrd : rdB s.data.toList = false := by rw [HRD.out]; exact hdb
    rw [HNZ.out hrd, HNZ.out hrd, HNZ.out hrd, HNZ.out hrd, hrd]
    have hxs : ¬ X = s := fun e => hl2 (by rw [← e, hX]; unfold dustT; rw [hdb]; rfl)
    have hdd : (X.toList == s.toList) = false := toList_ne hxs
    clear hrd hnm hdb HNZ HRD Y0 Y1 Y2 Y3 HTX hX hl1 hl2 hxs
    go_enter Tryd.func21, Tryd.ntmps21
    go_wp2_with fail
    generalize (w.alloc (.cells #[.int .i64 0, .int .i64 0, .int .i64 0, .int .i64 0] 25)) = w0 at *
    refine (HL.out _ be0).mono ?_
    rintro e w1 ⟨u, rfl, ho, hb1⟩
    obtain ⟨AL, cl, hu, -, -⟩ := ho.slice
    have hu : u = .slice AL 4 cl := hu
    subst hu
    obtain ⟨g, rfl, hg, hrow⟩ := own_row (n := 4) ho (by omega) rfl
    have g0 : w1.cell? ⟨g, 0, none⟩ = some (.int .i64 a) := World.ownsRow.cellAt hrow 0 (by omega)
    have g1 : w1.cell? ⟨g, 1, none⟩ = some (.int .i64 f) := World.ownsRow.cellAt hrow 1 (by omega)
    have g2 : w1.cell? ⟨g, 2, none⟩ = some (.int .i64 t) := World.ownsRow.cellAt hrow 2 (by omega)
    have g3 : w1.cell? ⟨g, 3, none⟩ = some (.int .i64 d) := World.ownsRow.cellAt hrow 3 (by omega)
    (have cl1 := (bcell hb1)); have z0_1 := cell_later hb1 z0_0; have z1_1 := cell_later hb1 z1_0; have z2_1 := cell_later hb1 z2_0; have z3_1 := cell_later hb1 z3_0; have f0_1 := (cl1.2 _ 0 lt0).trans (f_0 0); have f1_1 := (cl1.2 _ 1 lt0).trans (f_0 1); have f2_1 := (cl1.2 _ 2 lt0).trans (f_0 2); have f3_1 := (cl1.2 _ 3 lt0).trans (f_0 3); have be1 := be0.trans (hb1.mono be0.size); clear cl1 z0_0 z1_0 z2_0 z3_0
    have lt1 : w.heap.size < w1.heap.size := Nat.lt_of_lt_of_le lt0 hb1.size
    clear ho hrow
    go_wp2_with fail
    go_region_held3 (fun w' => w'.cell? ⟨g, 0, none⟩ = some (.int .i64 a) ∧ w'.cell? ⟨g, 1, none⟩ = some (.int .i64 f) ∧ w'.cell? ⟨g, 2, none⟩ = some (.int .i64 t) ∧ w'.cell? ⟨g, 3, none⟩ = some (.int .i64 d))
      (first
        | go_keep
        | exact ⟨Lib.cell?_alloc_some _ g0, Lib.cell?_alloc_some _ g1, Lib.cell?_alloc_some _ g2, Lib.cell?_alloc_some _ g3⟩)
      (first | fail)
    have hb2 : Below w1.heap.size w1 ((w1.alloc (.cells #[.int .i64 a, .int .i64 f, .int .i64 t, .int .i64 d] 25)).drew) := Below.drew ((Below.refl _ _).alloc (Nat.le_refl _) _)
    have c0_2 : (((w1.alloc (.cells #[.int .i64 a, .int .i64 f, .int .i64 t, .int .i64 d] 25)).drew)).cell? ⟨w1.heap.size, 0, none⟩ = some (.int .i64 a) := by go_simp
    have c1_2 : (((w1.alloc (.cells #[.int .i64 a, .int .i64 f, .int .i64 t, .int .i64 d] 25)).drew)).cell? ⟨w1.heap.size, 1, none⟩ = some (.int .i64 f) := by go_simp
    have c2_2 : (((w1.alloc (.cells #[.int .i64 a, .int .i64 f, .int .i64 t, .int .i64 d] 25)).drew)).cell? ⟨w1.heap.size, 2, none⟩ = some (.int .i64 t) := by go_simp
    have c3_2 : (((w1.alloc (.cells #[.int .i64 a, .int .i64 f, .int .i64 t, .int .i64 d] 25)).drew)).cell? ⟨w1.heap.size, 3, none⟩ = some (.int .i64 d) := by go_simp
    generalize ((w1.alloc (.cells #[.int .i64 a, .int .i64 f, .int .i64 t, .int .i64 d] 25)).drew) = w2 at *
    have cl2 := bcell hb2
    have z0_2 := cell_later hb2 z0_1
    have z1_2 := cell_later hb2 z1_1
    have z2_2 := cell_later hb2 z2_1
    have z3_2 := cell_later hb2 z3_1
    have f0_2 := (cl2.2 _ 0 lt1).trans f0_1
    have f1_2 := (cl2.2 _ 1 lt1).trans f1_1
    have f2_2 := (cl2.2 _ 2 lt1).trans f2_1
    have f3_2 := (cl2.2 _ 3 lt1).trans f3_1
    have be2 := be1.trans (hb2.mono be1.size)
    have lt2 : w.heap.size < w2.heap.size := Nat.lt_of_lt_of_le lt1 hb2.size
    clear cl2 z0_1 z1_1 z2_1 z3_1 f0_1 f1_1 f2_1 f3_1 g0 g1 g2 g3 f_0
    go_wp2_with fail
    refine (HT.out _ be2).mono ?_
    rintro e w3 ⟨rfl, hb3⟩
    have cl3 := bcell hb3
    have z0_3 := cell_later hb3 z0_2
    have z1_3 := cell_later hb3 z1_2
    have z2_3 := cell_later hb3 z2_2
    have z3_3 := cell_later hb3 z3_2
    have c0_3 := cell_later hb3 c0_2
    have c1_3 := cell_later hb3 c1_2
    have c2_3 := cell_later hb3 c2_2
    have c3_3 := cell_later hb3 c3_2
    have f0_3 := (cl3.2 _ 0 lt2).trans f0_2
    have f1_3 := (cl3.2 _ 1 lt2).trans f1_2
    have f2_3 := (cl3.2 _ 2 lt2).trans f2_2
    have f3_3 := (cl3.2 _ 3 lt2).trans f3_2
    have be3 := be2.trans (hb3.mono be2.size)
    clear cl3 z0_2 z1_2 z2_2 z3_2 f0_2 f1_2 f2_2 f3_2 c0_2 c1_2 c2_2 c3_2
    go_wp2_with fail
    obtain ⟨r0, r1, r2, r3⟩ := put4 (.int .i64 0) (.int .i64 0) (.int .i64 0) (.int .i64 0) z0_3 z1_3 z2_3 z3_3
    exact bodyPost_ret (v := .tuple #[.agg #[.int .i64 0, .int .i64 0, .int .i64 0, .int .i64 0], .bool false]) (by simp [results, Tryd.results21, go_sem, r0, r1, r2, r3]) rfl ⟨rfl, (((be3.setCell (by simp) _).setCell (by simp) _).setCell (by simp) _).setCell (by simp) _⟩
  · have hrd : rdB s.data.toList = true := by rw [HRD.out]; exact hdb
    rw [Y0.out hrd, Y1.out hrd, Y2.out hrd, Y3.out hrd, hrd]
    have hxs : X = s := by
      rw [hX]
      unfold dustT
      rw [hdb, if_pos rfl, hl1]
    have hdd : (X.toList == s.toList) = true := by rw [beq_iff_eq, hxs]
    clear hrd hnm hdb HNZ HRD Y0 Y1 Y2 Y3 HTX hX hl1 hl2 hxs
    go_enter Tryd.func21, Tryd.ntmps21
    go_wp2_with fail
    generalize (w.alloc (.cells #[.int .i64 0, .int .i64 0, .int .i64 0, .int .i64 0] 25)) = w0 at *
    refine (HL.out _ be0).mono ?_
    rintro e w1 ⟨u, rfl, ho, hb1⟩
    obtain ⟨AL, cl, hu, -, -⟩ := ho.slice
    have hu : u = .slice AL 4 cl := hu
    subst hu
    obtain ⟨g, rfl, hg, hrow⟩ := own_row (n := 4) ho (by omega) rfl
    have g0 : w1.cell? ⟨g, 0, none⟩ = some (.int .i64 a) := World.ownsRow.cellAt hrow 0 (by omega)
    have g1 : w1.cell? ⟨g, 1, none⟩ = some (.int .i64 f) := World.ownsRow.cellAt hrow 1 (by omega)
    have g2 : w1.cell? ⟨g, 2, none⟩ = some (.int .i64 t) := World.ownsRow.cellAt hrow 2 (by omega)
    have g3 : w1.cell? ⟨g, 3, none⟩ = some (.int .i64 d) := World.ownsRow.cellAt hrow 3 (by omega)
    (have cl1 := (bcell hb1)); have z0_1 := cell_later hb1 z0_0; have z1_1 := cell_later hb1 z1_0; have z2_1 := cell_later hb1 z2_0; have z3_1 := cell_later hb1 z3_0; have f0_1 := (cl1.2 _ 0 lt0).trans (f_0 0); have f1_1 := (cl1.2 _ 1 lt0).trans (f_0 1); have f2_1 := (cl1.2 _ 2 lt0).trans (f_0 2); have f3_1 := (cl1.2 _ 3 lt0).trans (f_0 3); have be1 := be0.trans (hb1.mono be0.size); clear cl1 z0_0 z1_0 z2_0 z3_0
    have lt1 : w.heap.size < w1.heap.size := Nat.lt_of_lt_of_le lt0 hb1.size
    clear ho hrow
    go_wp2_with fail
    go_region_held3 (fun w' => w'.cell? ⟨g, 0, none⟩ = some (.int .i64 a) ∧ w'.cell? ⟨g, 1, none⟩ = some (.int .i64 f) ∧ w'.cell? ⟨g, 2, none⟩ = some (.int .i64 t) ∧ w'.cell? ⟨g, 3, none⟩ = some (.int .i64 d))
      (first
        | go_keep
        | exact ⟨Lib.cell?_alloc_some _ g0, Lib.cell?_alloc_some _ g1, Lib.cell?_alloc_some _ g2, Lib.cell?_alloc_some _ g3⟩)
      (first | fail)
    have hb2 : Below w1.heap.size w1 ((w1.alloc (.cells #[.int .i64 a, .int .i64 f, .int .i64 t, .int .i64 d] 25)).drew) := Below.drew ((Below.refl _ _).alloc (Nat.le_refl _) _)
    have c0_2 : (((w1.alloc (.cells #[.int .i64 a, .int .i64 f, .int .i64 t, .int .i64 d] 25)).drew)).cell? ⟨w1.heap.size, 0, none⟩ = some (.int .i64 a) := by go_simp
    have c1_2 : (((w1.alloc (.cells #[.int .i64 a, .int .i64 f, .int .i64 t, .int .i64 d] 25)).drew)).cell? ⟨w1.heap.size, 1, none⟩ = some (.int .i64 f) := by go_simp
    have c2_2 : (((w1.alloc (.cells #[.int .i64 a, .int .i64 f, .int .i64 t, .int .i64 d] 25)).drew)).cell? ⟨w1.heap.size, 2, none⟩ = some (.int .i64 t) := by go_simp
    have c3_2 : (((w1.alloc (.cells #[.int .i64 a, .int .i64 f, .int .i64 t, .int .i64 d] 25)).drew)).cell? ⟨w1.heap.size, 3, none⟩ = some (.int .i64 d) := by go_simp
    generalize ((w1.alloc (.cells #[.int .i64 a, .int .i64 f, .int .i64 t, .int .i64 d] 25)).drew) = w2 at *
    have cl2 := bcell hb2
    have z0_2 := cell_later hb2 z0_1
    have z1_2 := cell_later hb2 z1_1
    have z2_2 := cell_later hb2 z2_1
    have z3_2 := cell_later hb2 z3_1
    have f0_2 := (cl2.2 _ 0 lt1).trans f0_1
    have f1_2 := (cl2.2 _ 1 lt1).trans f1_1
    have f2_2 := (cl2.2 _ 2 lt1).trans f2_1
    have f3_2 := (cl2.2 _ 3 lt1).trans f3_1
    have be2 := be1.trans (hb2.mono be1.size)
    have lt2 : w.heap.size < w2.heap.size := Nat.lt_of_lt_of_le lt1 hb2.size
    clear cl2 z0_1 z1_1 z2_1 z3_1 f0_1 f1_1 f2_1 f3_1 g0 g1 g2 g3 f_0
    go_wp2_with fail
    refine (HT.out _ be2).mono ?_
    rintro e w3 ⟨rfl, hb3⟩
    have cl3 := bcell hb3
    have z0_3 := cell_later hb3 z0_2
    have z1_3 := cell_later hb3 z1_2
    have z2_3 := cell_later hb3 z2_2
    have z3_3 := cell_later hb3 z3_2
    have c0_3 := cell_later hb3 c0_2
    have c1_3 := cell_later hb3 c1_2
    have c2_3 := cell_later hb3 c2_2
    have c3_3 := cell_later hb3 c3_2
    have f0_3 := (cl3.2 _ 0 lt2).trans f0_2
    have f1_3 := (cl3.2 _ 1 lt2).trans f1_2
    have f2_3 := (cl3.2 _ 2 lt2).trans f2_2
    have f3_3 := (cl3.2 _ 3 lt2).trans f3_2
    have be3 := be2.trans (hb3.mono be2.size)
    clear cl3 z0_2 z1_2 z2_2 z3_2 f0_2 f1_2 f2_2 f3_2 c0_2 c1_2 c2_2 c3_2
    go_wp2_with fail
    obtain ⟨r0, r1, r2, r3⟩ := put4 (.int .i64 a) (.int .i64 f) (.int .i64 t) (.int .i64 d) z0_3 z1_3 z2_3 z3_3
    exact bodyPost_ret (v := .tuple #[.agg #[.int .i64 a, .int .i64 f, .int .i64 t, .int .i64 d], .bool true]) (by simp [results, Tryd.results21, go_sem, r0, r1, r2, r3]) rfl ⟨rfl, (((be3.setCell (by simp) _).setCell (by simp) _).setCell (by simp) _).setCell (by simp) _⟩
end Go.Proofs.YtemidjejelmdlaaDoor
