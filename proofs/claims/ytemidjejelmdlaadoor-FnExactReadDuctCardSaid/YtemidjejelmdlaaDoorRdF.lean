/- A duct read back from its text: by the reference, by the program, and the walk of the law. Conditions: the library's variables lie in memory; the lengths that each theorem names. Printed by gen_rdh.py. -/
import Derived.Test.YtemidjejelmdlaaDoorRdQ
import Derived.Test.YtemidjejelmdlaaDoorTxU
namespace Go.Proofs.YtemidjejelmdlaaDoor
open Go.RowKit Go.PlainAid
open Pl
/-- The text of a duct; its name; its numbers. -/
noncomputable def rdDuctB (l : List UInt8) : Bool := nmB (rst l) 3 && ductB (mkS (spH 32 l)) ((nmL (rst l) 3).getD 0 0) ((nmL (rst l) 3).getD 1 0) ((nmL (rst l) 3).getD 2 0)
noncomputable def rdDuctS (l : List UInt8) : ByteArray := if rdDuctB l then mkS (spH 32 l) else ⟨#[]⟩
noncomputable def rdDuctN (l : List UInt8) (i : Nat) : Int := if rdDuctB l then (nmL (rst l) 3).getD i 0 else 0
theorem rdDuct_no {l : List UInt8} (h : rdDuctB l = false) : rdDuctS l = ⟨#[]⟩ ∧ rdDuctN l 0 = 0 ∧ rdDuctN l 1 = 0 ∧ rdDuctN l 2 = 0 := by
  unfold rdDuctS rdDuctN; rw [h]; exact ⟨rfl, rfl, rfl, rfl⟩
theorem rdDuct_yes {l : List UInt8} (h : rdDuctB l = true) : rdDuctS l = mkS (spH 32 l) ∧ rdDuctN l 0 = ((nmL (rst l) 3).getD 0 0) ∧ rdDuctN l 1 = ((nmL (rst l) 3).getD 1 0) ∧ rdDuctN l 2 = ((nmL (rst l) 3).getD 2 0) := by
  unfold rdDuctS rdDuctN; rw [h]; exact ⟨rfl, rfl, rfl, rfl⟩
theorem rdDuct_all {xs : List Int} (h : xs.length = 3) : xs = [xs.getD 0 0, xs.getD 1 0, xs.getD 2 0] := by
  match xs, h with
  | [a, f, t], _ => rfl
theorem rdDuct_back {s : ByteArray} {a f t : Int} (h : nmB (rst s.data.toList) 3 = true) (e : nmL (rst s.data.toList) 3 = [a, f, t]) : ductT (mkS (spH 32 s.data.toList)) a f t = s := by
  rw [nmL_yes h] at e
  have h1 := (nmB_parts h).1
  have ht := (readB_text h1).1
  rw [e] at ht
  have hl := (rst_ne h1).2
  unfold ductT
  rw [ht]
  apply ByteArray.ext
  apply Array.toList_inj.1
  conv => rhs; rw [hl]
  simp [mkS]
set_option maxRecDepth 100000 in
set_option maxHeartbeats 3200000 in
theorem ReadDuct_s (s : ByteArray) (w : World) (hs : s.size ≤ 1048576) :
    Calls Tryd.prog 26 #[.string s] w fun e w' => e = .returned (.tuple #[.agg #[.string (rdDuctS s.data.toList), .int .i64 (rdDuctN s.data.toList 0), .int .i64 (rdDuctN s.data.toList 1), .int .i64 (rdDuctN s.data.toList 2)], .bool (rdDuctB s.data.toList)]) ∧ Below w.heap.size w w' := by
  have be0 : Below w.heap.size w (w.alloc (.cells #[.string ⟨#[]⟩, .int .i64 0, .int .i64 0, .int .i64 0] 39)) := by go_grown
  have z0_0 : ((w.alloc (.cells #[.string ⟨#[]⟩, .int .i64 0, .int .i64 0, .int .i64 0] 39))).cell? ⟨w.heap.size, 0, none⟩ = some (.string ⟨#[]⟩) := by go_simp
  have z1_0 : ((w.alloc (.cells #[.string ⟨#[]⟩, .int .i64 0, .int .i64 0, .int .i64 0] 39))).cell? ⟨w.heap.size, 1, none⟩ = some (.int .i64 0) := by go_simp
  have z2_0 : ((w.alloc (.cells #[.string ⟨#[]⟩, .int .i64 0, .int .i64 0, .int .i64 0] 39))).cell? ⟨w.heap.size, 2, none⟩ = some (.int .i64 0) := by go_simp
  have z3_0 : ((w.alloc (.cells #[.string ⟨#[]⟩, .int .i64 0, .int .i64 0, .int .i64 0] 39))).cell? ⟨w.heap.size, 3, none⟩ = some (.int .i64 0) := by go_simp
  have f0_0 : ((w.alloc (.cells #[.string ⟨#[]⟩, .int .i64 0, .int .i64 0, .int .i64 0] 39))).frozen? ⟨w.heap.size, 0, none⟩ = false := by go_simp
  have f1_0 : ((w.alloc (.cells #[.string ⟨#[]⟩, .int .i64 0, .int .i64 0, .int .i64 0] 39))).frozen? ⟨w.heap.size, 1, none⟩ = false := by go_simp
  have f2_0 : ((w.alloc (.cells #[.string ⟨#[]⟩, .int .i64 0, .int .i64 0, .int .i64 0] 39))).frozen? ⟨w.heap.size, 2, none⟩ = false := by go_simp
  have f3_0 : ((w.alloc (.cells #[.string ⟨#[]⟩, .int .i64 0, .int .i64 0, .int .i64 0] 39))).frozen? ⟨w.heap.size, 3, none⟩ = false := by go_simp
  have lt0 : w.heap.size < ((w.alloc (.cells #[.string ⟨#[]⟩, .int .i64 0, .int .i64 0, .int .i64 0] 39))).heap.size := by simp
  have HB : Hid (rdDuctB s.data.toList = (nmB (rst s.data.toList) 3 && ductB (mkS (spH 32 s.data.toList)) ((nmL (rst s.data.toList) 3).getD 0 0) ((nmL (rst s.data.toList) 3).getD 1 0) ((nmL (rst s.data.toList) 3).getD 2 0))) := Lib.hid rfl
  have HNO := Lib.hid (fun h => rdDuct_no (l := s.data.toList) h)
  have HYES := Lib.hid (fun h => rdDuct_yes (l := s.data.toList) h)
  have HSp := Lib.hid (fun W => l01Split_any s 32 32 rfl W hs)
  by_cases h2 : (spl 32 s.data.toList).length = 2
  rotate_left
  · have hV : rdDuctB s.data.toList = false := by
      rw [HB.out, Bool.and_eq_false_iff]
      left
      rw [Bool.eq_false_iff]
      exact fun h => h2 (spl_two (nmB_parts h).1)
    obtain ⟨e0, e1, e2, e3⟩ := HNO.out hV
    rw [e0, e1, e2, e3, hV]
    have hne : (((spl 32 s.data.toList).map mkS).length : Int) ≠ 2 := by rw [List.length_map]; omega
    clear HB HNO HYES hV h2 e0 e1 e2 e3
    generalize (spl 32 s.data.toList).map mkS = ps at *
    go_enter Tryd.func26, Tryd.ntmps26
    go_wp2_with fail
    generalize (w.alloc (.cells #[.string ⟨#[]⟩, .int .i64 0, .int .i64 0, .int .i64 0] 39)) = w0 at *
    refine (HSp.out _).mono ?_
    rintro e w1 ⟨u, rfl, ho, hb1⟩
    obtain ⟨AL, cl, rfl, -, -⟩ := ho.slice encS_len
    have h2b : ((ps.length : Int) == 2) = false := by rw [beq_eq_false_iff_ne]; exact hne
    clear ho hne HSp
    generalize ps.length = n at *
    have cl := bcell hb1
    have z0_1 := cell_later hb1 z0_0
    have z1_1 := cell_later hb1 z1_0
    have z2_1 := cell_later hb1 z2_0
    have z3_1 := cell_later hb1 z3_0
    have f0_1 := (cl.2 _ 0 lt0).trans f0_0
    have f1_1 := (cl.2 _ 1 lt0).trans f1_0
    have f2_1 := (cl.2 _ 2 lt0).trans f2_0
    have f3_1 := (cl.2 _ 3 lt0).trans f3_0
    have be1 := be0.trans (hb1.mono be0.size)
    have lt1 : w.heap.size < w1.heap.size := Nat.lt_of_lt_of_le lt0 hb1.size
    clear cl z0_0 f0_0 z1_0 f1_0 z2_0 f2_0 z3_0 f3_0
    go_wp2_with fail
    obtain ⟨r0, r1, r2, r3⟩ := put4 (.string ⟨#[]⟩) (.int .i64 0) (.int .i64 0) (.int .i64 0) z0_1 z1_1 z2_1 z3_1
    exact bodyPost_ret (v := .tuple #[.agg #[.string ⟨#[]⟩, .int .i64 0, .int .i64 0, .int .i64 0], .bool false]) (by simp [results, Tryd.results26, go_sem, r0, r1, r2, r3]) rfl ⟨rfl, ((((be1.setCell (by simp) _).setCell (by simp) _).setCell (by simp) _).setCell (by simp) _)⟩
  have HRL : Hid (∀ W, Calls Tryd.prog 43 #[.string (mkS (rst s.data.toList))] W fun e w' => ∃ u, e = .returned (.tuple #[u, .bool (readB (rst s.data.toList))]) ∧ Own W.heap.size w' u (readL (rst s.data.toList)) ∧ Below W.heap.size W w') := Lib.hid (fun W => by
    have hl := rst_len s.data.toList
    have hz := size_list s
    have h := ReadList_s (mkS (rst s.data.toList)) W (by rw [mkS_size]; omega)
    rw [mkS_data] at h
    exact h)
  have hsp : (spl 32 s.data.toList).map mkS = [mkS (spH 32 s.data.toList), mkS (rst s.data.toList)] := by rw [spl_len2 h2]; rfl
  rw [hsp] at HSp
  have hnz : (mkS (spH 32 s.data.toList)).size ≤ maxLen := by
    have := (spl_len 32 s.data.toList).1
    have := size_list s
    rw [mkS_size]; exact le_max (by omega)
  clear hsp h2
  generalize rdDuctB s.data.toList = V at *
  generalize rdDuctS s.data.toList = X at *
  generalize rdDuctN s.data.toList 0 = N0 at *
  generalize rdDuctN s.data.toList 1 = N1 at *
  generalize rdDuctN s.data.toList 2 = N2 at *
  generalize mkS (spH 32 s.data.toList) = hd at *
  generalize rst s.data.toList = l at *
  generalize mkS l = sl at *
  cases hr : readB l
  · have hV : V = false := by rw [HB.out]; unfold nmB; rw [hr]; rfl
    subst hV
    obtain ⟨rfl, rfl, rfl, rfl⟩ := HNO.out rfl
    rw [hr, readL_no hr] at HRL
    clear HB HNO HYES hr hnz
    go_enter Tryd.func26, Tryd.ntmps26
    go_wp2_with fail
    generalize (w.alloc (.cells #[.string ⟨#[]⟩, .int .i64 0, .int .i64 0, .int .i64 0] 39)) = w0 at *
    refine (HSp.out _).mono ?_
    rintro e w1 ⟨u, rfl, ho, hb1⟩
    obtain ⟨AL, cl, hu, hrec, hz⟩ := ho.slice encS_len
    have hu : u = .slice AL 2 cl := hu
    subst hu
    obtain ⟨bs, os, rfl, -, q0⟩ := hrec.str (k := 0) (by simp)
    obtain ⟨bs', os', es, -, q1⟩ := hrec.str (k := 1) (by simp)
    have hz0 := (hz _ rfl).1
    clear hz
    obtain ⟨rfl, rfl⟩ : bs = bs' ∧ os = os' := by injection es with es; injection es with h1 h2; exact ⟨h1, h2⟩
    obtain rfl : os = 0 := by injection hz0
    have s0_1 : w1.cell? ⟨bs, 0, none⟩ = some (.string hd) := q0
    have s1_1 : w1.cell? ⟨bs, 1, none⟩ = some (.string sl) := q1
    clear q0 q1 hz0 es
    have cl := bcell hb1
    have z0_1 := cell_later hb1 z0_0
    have z1_1 := cell_later hb1 z1_0
    have z2_1 := cell_later hb1 z2_0
    have z3_1 := cell_later hb1 z3_0
    have f0_1 := (cl.2 _ 0 lt0).trans f0_0
    have f1_1 := (cl.2 _ 1 lt0).trans f1_0
    have f2_1 := (cl.2 _ 2 lt0).trans f2_0
    have f3_1 := (cl.2 _ 3 lt0).trans f3_0
    have be1 := be0.trans (hb1.mono be0.size)
    have lt1 : w.heap.size < w1.heap.size := Nat.lt_of_lt_of_le lt0 hb1.size
    clear cl z0_0 f0_0 z1_0 f1_0 z2_0 f2_0 z3_0 f3_0
    clear hrec ho HSp
    go_wp2_with fail
    refine (HRL.out _).mono ?_
    rintro e w2 ⟨u, rfl, ho, hb2⟩
    have cl := bcell hb2
    have z0_2 := cell_later hb2 z0_1
    have z1_2 := cell_later hb2 z1_1
    have z2_2 := cell_later hb2 z2_1
    have z3_2 := cell_later hb2 z3_1
    have f0_2 := (cl.2 _ 0 lt1).trans f0_1
    have f1_2 := (cl.2 _ 1 lt1).trans f1_1
    have f2_2 := (cl.2 _ 2 lt1).trans f2_1
    have f3_2 := (cl.2 _ 3 lt1).trans f3_1
    have be2 := be1.trans (hb2.mono be1.size)
    have lt2 : w.heap.size < w2.heap.size := Nat.lt_of_lt_of_le lt1 hb2.size
    clear cl z0_1 f0_1 z1_1 f1_1 z2_1 f2_1 z3_1 f3_1
    obtain ⟨A2, c2, rfl, -, -⟩ := ho.slice
    clear ho
    go_wp2_with fail
    obtain ⟨r0, r1, r2, r3⟩ := put4 (.string ⟨#[]⟩) (.int .i64 0) (.int .i64 0) (.int .i64 0) z0_2 z1_2 z2_2 z3_2
    exact bodyPost_ret (v := .tuple #[.agg #[.string ⟨#[]⟩, .int .i64 0, .int .i64 0, .int .i64 0], .bool false]) (by simp [results, Tryd.results26, go_sem, r0, r1, r2, r3]) rfl ⟨rfl, ((((be2.setCell (by simp) _).setCell (by simp) _).setCell (by simp) _).setCell (by simp) _)⟩
  rw [hr, readL_yes hr] at HRL
  by_cases hK : (readV l).length = 3
  rotate_left
  · have hV : V = false := by rw [HB.out]; unfold nmB; rw [hr, decide_eq_false hK]; rfl
    subst hV
    obtain ⟨rfl, rfl, rfl, rfl⟩ := HNO.out rfl
    clear HB HNO HYES hr hnz
    generalize readV l = xs at *
    go_enter Tryd.func26, Tryd.ntmps26
    go_wp2_with fail
    generalize (w.alloc (.cells #[.string ⟨#[]⟩, .int .i64 0, .int .i64 0, .int .i64 0] 39)) = w0 at *
    refine (HSp.out _).mono ?_
    rintro e w1 ⟨u, rfl, ho, hb1⟩
    obtain ⟨AL, cl, hu, hrec, hz⟩ := ho.slice encS_len
    have hu : u = .slice AL 2 cl := hu
    subst hu
    obtain ⟨bs, os, rfl, -, q0⟩ := hrec.str (k := 0) (by simp)
    obtain ⟨bs', os', es, -, q1⟩ := hrec.str (k := 1) (by simp)
    have hz0 := (hz _ rfl).1
    clear hz
    obtain ⟨rfl, rfl⟩ : bs = bs' ∧ os = os' := by injection es with es; injection es with h1 h2; exact ⟨h1, h2⟩
    obtain rfl : os = 0 := by injection hz0
    have s0_1 : w1.cell? ⟨bs, 0, none⟩ = some (.string hd) := q0
    have s1_1 : w1.cell? ⟨bs, 1, none⟩ = some (.string sl) := q1
    clear q0 q1 hz0 es
    have cl := bcell hb1
    have z0_1 := cell_later hb1 z0_0
    have z1_1 := cell_later hb1 z1_0
    have z2_1 := cell_later hb1 z2_0
    have z3_1 := cell_later hb1 z3_0
    have f0_1 := (cl.2 _ 0 lt0).trans f0_0
    have f1_1 := (cl.2 _ 1 lt0).trans f1_0
    have f2_1 := (cl.2 _ 2 lt0).trans f2_0
    have f3_1 := (cl.2 _ 3 lt0).trans f3_0
    have be1 := be0.trans (hb1.mono be0.size)
    have lt1 : w.heap.size < w1.heap.size := Nat.lt_of_lt_of_le lt0 hb1.size
    clear cl z0_0 f0_0 z1_0 f1_0 z2_0 f2_0 z3_0 f3_0
    clear hrec ho HSp
    go_wp2_with fail
    refine (HRL.out _).mono ?_
    rintro e w2 ⟨u, rfl, ho, hb2⟩
    have cl := bcell hb2
    have z0_2 := cell_later hb2 z0_1
    have z1_2 := cell_later hb2 z1_1
    have z2_2 := cell_later hb2 z2_1
    have z3_2 := cell_later hb2 z3_1
    have f0_2 := (cl.2 _ 0 lt1).trans f0_1
    have f1_2 := (cl.2 _ 1 lt1).trans f1_1
    have f2_2 := (cl.2 _ 2 lt1).trans f2_1
    have f3_2 := (cl.2 _ 3 lt1).trans f3_1
    have be2 := be1.trans (hb2.mono be1.size)
    have lt2 : w.heap.size < w2.heap.size := Nat.lt_of_lt_of_le lt1 hb2.size
    clear cl z0_1 f0_1 z1_1 f1_1 z2_1 f2_1 z3_1 f3_1
    obtain ⟨A2, c2, rfl, -, -⟩ := ho.slice
    have hKb : ((xs.length : Int) == 3) = false := by rw [beq_eq_false_iff_ne]; omega
    clear ho hK
    go_wp2_with fail
    obtain ⟨r0, r1, r2, r3⟩ := put4 (.string ⟨#[]⟩) (.int .i64 0) (.int .i64 0) (.int .i64 0) z0_2 z1_2 z2_2 z3_2
    exact bodyPost_ret (v := .tuple #[.agg #[.string ⟨#[]⟩, .int .i64 0, .int .i64 0, .int .i64 0], .bool false]) (by simp [results, Tryd.results26, go_sem, r0, r1, r2, r3]) rfl ⟨rfl, ((((be2.setCell (by simp) _).setCell (by simp) _).setCell (by simp) _).setCell (by simp) _)⟩
  have hnm : nmB l 3 = true := by unfold nmB; rw [hr, decide_eq_true hK]; rfl
  rw [hnm, Bool.true_and] at HB
  rw [nmL_yes hnm] at HB HYES
  have hxx := rdDuct_all hK
  generalize (readV l).getD 0 0 = a at *
  generalize (readV l).getD 1 0 = f at *
  generalize (readV l).getD 2 0 = t at *
  rw [hxx] at HRL
  have HOk := Lib.hid (fun b W h0 h1 h2 h3 => (l11Ok_any b 0 hd a f t W hnz h0 h1 h2 h3).mono (fun e w' (h : _ ∧ ∃ n, W.drewN n = w') => (⟨h.1, by obtain ⟨_, n, rfl⟩ := h; exact below_drewN (Below.refl _ _) n⟩ : _ ∧ Below W.heap.size W w')))
  clear hxx hK hnm hr hnz
  cases hv : ductB hd a f t
  · have hV : V = false := by rw [HB.out]; exact hv
    subst hV
    obtain ⟨rfl, rfl, rfl, rfl⟩ := HNO.out rfl
    rw [hv] at HOk
    clear HB HNO HYES hv
    go_enter Tryd.func26, Tryd.ntmps26
    go_wp2_with fail
    generalize (w.alloc (.cells #[.string ⟨#[]⟩, .int .i64 0, .int .i64 0, .int .i64 0] 39)) = w0 at *
    refine (HSp.out _).mono ?_
    rintro e w1 ⟨u, rfl, ho, hb1⟩
    obtain ⟨AL, cl, hu, hrec, hz⟩ := ho.slice encS_len
    have hu : u = .slice AL 2 cl := hu
    subst hu
    obtain ⟨bs, os, rfl, -, q0⟩ := hrec.str (k := 0) (by simp)
    obtain ⟨bs', os', es, -, q1⟩ := hrec.str (k := 1) (by simp)
    have hz0 := (hz _ rfl).1
    clear hz
    obtain ⟨rfl, rfl⟩ : bs = bs' ∧ os = os' := by injection es with es; injection es with h1 h2; exact ⟨h1, h2⟩
    obtain rfl : os = 0 := by injection hz0
    have s0_1 : w1.cell? ⟨bs, 0, none⟩ = some (.string hd) := q0
    have s1_1 : w1.cell? ⟨bs, 1, none⟩ = some (.string sl) := q1
    clear q0 q1 hz0 es
    have cl := bcell hb1
    have z0_1 := cell_later hb1 z0_0
    have z1_1 := cell_later hb1 z1_0
    have z2_1 := cell_later hb1 z2_0
    have z3_1 := cell_later hb1 z3_0
    have f0_1 := (cl.2 _ 0 lt0).trans f0_0
    have f1_1 := (cl.2 _ 1 lt0).trans f1_0
    have f2_1 := (cl.2 _ 2 lt0).trans f2_0
    have f3_1 := (cl.2 _ 3 lt0).trans f3_0
    have be1 := be0.trans (hb1.mono be0.size)
    have lt1 : w.heap.size < w1.heap.size := Nat.lt_of_lt_of_le lt0 hb1.size
    clear cl z0_0 f0_0 z1_0 f1_0 z2_0 f2_0 z3_0 f3_0
    clear hrec ho HSp
    go_wp2_with fail
    refine (HRL.out _).mono ?_
    rintro e w2 ⟨u, rfl, ho, hb2⟩
    have cl := bcell hb2
    have z0_2 := cell_later hb2 z0_1
    have z1_2 := cell_later hb2 z1_1
    have z2_2 := cell_later hb2 z2_1
    have z3_2 := cell_later hb2 z3_1
    have f0_2 := (cl.2 _ 0 lt1).trans f0_1
    have f1_2 := (cl.2 _ 1 lt1).trans f1_1
    have f2_2 := (cl.2 _ 2 lt1).trans f2_1
    have f3_2 := (cl.2 _ 3 lt1).trans f3_1
    have s0_2 := cell_later hb2 s0_1
    have be2 := be1.trans (hb2.mono be1.size)
    have lt2 : w.heap.size < w2.heap.size := Nat.lt_of_lt_of_le lt1 hb2.size
    clear cl z0_1 f0_1 z1_1 f1_1 z2_1 f2_1 z3_1 f3_1 s0_1
    obtain ⟨A2, c2, hu, -, -⟩ := ho.slice
    have hu : u = .slice A2 3 c2 := hu
    subst hu
    obtain ⟨g, rfl, hg, hrow⟩ := own_row (n := 3) ho (by omega) rfl
    have g0_2 : w2.cell? ⟨g, 0, none⟩ = some (.int .i64 a) := World.ownsRow.cellAt hrow 0 (by omega)
    have g1_2 : w2.cell? ⟨g, 1, none⟩ = some (.int .i64 f) := World.ownsRow.cellAt hrow 1 (by omega)
    have g2_2 : w2.cell? ⟨g, 2, none⟩ = some (.int .i64 t) := World.ownsRow.cellAt hrow 2 (by omega)
    clear ho hrow
    go_wp2_with fail
    go_region_held3 (fun w' => w'.cell? ⟨bs, 0, none⟩ = some (.string hd) ∧ w'.cell? ⟨g, 0, none⟩ = some (.int .i64 a) ∧ w'.cell? ⟨g, 1, none⟩ = some (.int .i64 f) ∧ w'.cell? ⟨g, 2, none⟩ = some (.int .i64 t))
      (first
        | go_keep
        | exact ⟨Lib.cell?_alloc_some _ s0_2, Lib.cell?_alloc_some _ g0_2, Lib.cell?_alloc_some _ g1_2, Lib.cell?_alloc_some _ g2_2⟩)
      (first | fail)
    have hb3 : Below w2.heap.size w2 ((w2.alloc (.cells #[.string hd, .int .i64 a, .int .i64 f, .int .i64 t] 39)).drew) := Below.drew ((Below.refl _ _).alloc (Nat.le_refl _) _)
    have c0_3 : (((w2.alloc (.cells #[.string hd, .int .i64 a, .int .i64 f, .int .i64 t] 39)).drew)).cell? ⟨w2.heap.size, 0, none⟩ = some (.string hd) := by go_simp
    have c1_3 : (((w2.alloc (.cells #[.string hd, .int .i64 a, .int .i64 f, .int .i64 t] 39)).drew)).cell? ⟨w2.heap.size, 1, none⟩ = some (.int .i64 a) := by go_simp
    have c2_3 : (((w2.alloc (.cells #[.string hd, .int .i64 a, .int .i64 f, .int .i64 t] 39)).drew)).cell? ⟨w2.heap.size, 2, none⟩ = some (.int .i64 f) := by go_simp
    have c3_3 : (((w2.alloc (.cells #[.string hd, .int .i64 a, .int .i64 f, .int .i64 t] 39)).drew)).cell? ⟨w2.heap.size, 3, none⟩ = some (.int .i64 t) := by go_simp
    generalize ((w2.alloc (.cells #[.string hd, .int .i64 a, .int .i64 f, .int .i64 t] 39)).drew) = w3 at *
    have cl := bcell hb3
    have z0_3 := cell_later hb3 z0_2
    have z1_3 := cell_later hb3 z1_2
    have z2_3 := cell_later hb3 z2_2
    have z3_3 := cell_later hb3 z3_2
    have f0_3 := (cl.2 _ 0 lt2).trans f0_2
    have f1_3 := (cl.2 _ 1 lt2).trans f1_2
    have f2_3 := (cl.2 _ 2 lt2).trans f2_2
    have f3_3 := (cl.2 _ 3 lt2).trans f3_2
    have be3 := be2.trans (hb3.mono be2.size)
    have lt3 : w.heap.size < w3.heap.size := Nat.lt_of_lt_of_le lt2 hb3.size
    clear cl z0_2 f0_2 z1_2 f1_2 z2_2 f2_2 z3_2 f3_2
    go_wp2_with fail
    refine (HOk.out w2.heap.size _ c0_3 c1_3 c2_3 c3_3).mono ?_
    rintro e w4 ⟨rfl, hb4⟩
    have cl := bcell hb4
    have z0_4 := cell_later hb4 z0_3
    have z1_4 := cell_later hb4 z1_3
    have z2_4 := cell_later hb4 z2_3
    have z3_4 := cell_later hb4 z3_3
    have f0_4 := (cl.2 _ 0 lt3).trans f0_3
    have f1_4 := (cl.2 _ 1 lt3).trans f1_3
    have f2_4 := (cl.2 _ 2 lt3).trans f2_3
    have f3_4 := (cl.2 _ 3 lt3).trans f3_3
    have c0_4 := cell_later hb4 c0_3
    have c1_4 := cell_later hb4 c1_3
    have c2_4 := cell_later hb4 c2_3
    have c3_4 := cell_later hb4 c3_3
    have be4 := be3.trans (hb4.mono be3.size)
    have lt4 : w.heap.size < w4.heap.size := Nat.lt_of_lt_of_le lt3 hb4.size
    clear cl z0_3 f0_3 z1_3 f1_3 z2_3 f2_3 z3_3 f3_3 c0_3 c1_3 c2_3 c3_3
    go_wp2_with fail
    obtain ⟨r0, r1, r2, r3⟩ := put4 (.string ⟨#[]⟩) (.int .i64 0) (.int .i64 0) (.int .i64 0) z0_4 z1_4 z2_4 z3_4
    exact bodyPost_ret (v := .tuple #[.agg #[.string ⟨#[]⟩, .int .i64 0, .int .i64 0, .int .i64 0], .bool false]) (by simp [results, Tryd.results26, go_sem, r0, r1, r2, r3]) rfl ⟨rfl, ((((be4.setCell (by simp) _).setCell (by simp) _).setCell (by simp) _).setCell (by simp) _)⟩
  · have hV : V = true := by rw [HB.out]; exact hv
    subst hV
    obtain ⟨e0, e1, e2, e3⟩ := HYES.out rfl
    rw [e0, e1, e2, e3]
    clear e0 e1 e2 e3
    rw [hv] at HOk
    clear HB HNO HYES hv
    go_enter Tryd.func26, Tryd.ntmps26
    go_wp2_with fail
    generalize (w.alloc (.cells #[.string ⟨#[]⟩, .int .i64 0, .int .i64 0, .int .i64 0] 39)) = w0 at *
    refine (HSp.out _).mono ?_
    rintro e w1 ⟨u, rfl, ho, hb1⟩
    obtain ⟨AL, cl, hu, hrec, hz⟩ := ho.slice encS_len
    have hu : u = .slice AL 2 cl := hu
    subst hu
    obtain ⟨bs, os, rfl, -, q0⟩ := hrec.str (k := 0) (by simp)
    obtain ⟨bs', os', es, -, q1⟩ := hrec.str (k := 1) (by simp)
    have hz0 := (hz _ rfl).1
    clear hz
    obtain ⟨rfl, rfl⟩ : bs = bs' ∧ os = os' := by injection es with es; injection es with h1 h2; exact ⟨h1, h2⟩
    obtain rfl : os = 0 := by injection hz0
    have s0_1 : w1.cell? ⟨bs, 0, none⟩ = some (.string hd) := q0
    have s1_1 : w1.cell? ⟨bs, 1, none⟩ = some (.string sl) := q1
    clear q0 q1 hz0 es
    have cl := bcell hb1
    have z0_1 := cell_later hb1 z0_0
    have z1_1 := cell_later hb1 z1_0
    have z2_1 := cell_later hb1 z2_0
    have z3_1 := cell_later hb1 z3_0
    have f0_1 := (cl.2 _ 0 lt0).trans f0_0
    have f1_1 := (cl.2 _ 1 lt0).trans f1_0
    have f2_1 := (cl.2 _ 2 lt0).trans f2_0
    have f3_1 := (cl.2 _ 3 lt0).trans f3_0
    have be1 := be0.trans (hb1.mono be0.size)
    have lt1 : w.heap.size < w1.heap.size := Nat.lt_of_lt_of_le lt0 hb1.size
    clear cl z0_0 f0_0 z1_0 f1_0 z2_0 f2_0 z3_0 f3_0
    clear hrec ho HSp
    go_wp2_with fail
    refine (HRL.out _).mono ?_
    rintro e w2 ⟨u, rfl, ho, hb2⟩
    have cl := bcell hb2
    have z0_2 := cell_later hb2 z0_1
    have z1_2 := cell_later hb2 z1_1
    have z2_2 := cell_later hb2 z2_1
    have z3_2 := cell_later hb2 z3_1
    have f0_2 := (cl.2 _ 0 lt1).trans f0_1
    have f1_2 := (cl.2 _ 1 lt1).trans f1_1
    have f2_2 := (cl.2 _ 2 lt1).trans f2_1
    have f3_2 := (cl.2 _ 3 lt1).trans f3_1
    have s0_2 := cell_later hb2 s0_1
    have be2 := be1.trans (hb2.mono be1.size)
    have lt2 : w.heap.size < w2.heap.size := Nat.lt_of_lt_of_le lt1 hb2.size
    clear cl z0_1 f0_1 z1_1 f1_1 z2_1 f2_1 z3_1 f3_1 s0_1
    obtain ⟨A2, c2, hu, -, -⟩ := ho.slice
    have hu : u = .slice A2 3 c2 := hu
    subst hu
    obtain ⟨g, rfl, hg, hrow⟩ := own_row (n := 3) ho (by omega) rfl
    have g0_2 : w2.cell? ⟨g, 0, none⟩ = some (.int .i64 a) := World.ownsRow.cellAt hrow 0 (by omega)
    have g1_2 : w2.cell? ⟨g, 1, none⟩ = some (.int .i64 f) := World.ownsRow.cellAt hrow 1 (by omega)
    have g2_2 : w2.cell? ⟨g, 2, none⟩ = some (.int .i64 t) := World.ownsRow.cellAt hrow 2 (by omega)
    clear ho hrow
    go_wp2_with fail
    go_region_held3 (fun w' => w'.cell? ⟨bs, 0, none⟩ = some (.string hd) ∧ w'.cell? ⟨g, 0, none⟩ = some (.int .i64 a) ∧ w'.cell? ⟨g, 1, none⟩ = some (.int .i64 f) ∧ w'.cell? ⟨g, 2, none⟩ = some (.int .i64 t))
      (first
        | go_keep
        | exact ⟨Lib.cell?_alloc_some _ s0_2, Lib.cell?_alloc_some _ g0_2, Lib.cell?_alloc_some _ g1_2, Lib.cell?_alloc_some _ g2_2⟩)
      (first | fail)
    have hb3 : Below w2.heap.size w2 ((w2.alloc (.cells #[.string hd, .int .i64 a, .int .i64 f, .int .i64 t] 39)).drew) := Below.drew ((Below.refl _ _).alloc (Nat.le_refl _) _)
    have c0_3 : (((w2.alloc (.cells #[.string hd, .int .i64 a, .int .i64 f, .int .i64 t] 39)).drew)).cell? ⟨w2.heap.size, 0, none⟩ = some (.string hd) := by go_simp
    have c1_3 : (((w2.alloc (.cells #[.string hd, .int .i64 a, .int .i64 f, .int .i64 t] 39)).drew)).cell? ⟨w2.heap.size, 1, none⟩ = some (.int .i64 a) := by go_simp
    have c2_3 : (((w2.alloc (.cells #[.string hd, .int .i64 a, .int .i64 f, .int .i64 t] 39)).drew)).cell? ⟨w2.heap.size, 2, none⟩ = some (.int .i64 f) := by go_simp
    have c3_3 : (((w2.alloc (.cells #[.string hd, .int .i64 a, .int .i64 f, .int .i64 t] 39)).drew)).cell? ⟨w2.heap.size, 3, none⟩ = some (.int .i64 t) := by go_simp
    generalize ((w2.alloc (.cells #[.string hd, .int .i64 a, .int .i64 f, .int .i64 t] 39)).drew) = w3 at *
    have cl := bcell hb3
    have z0_3 := cell_later hb3 z0_2
    have z1_3 := cell_later hb3 z1_2
    have z2_3 := cell_later hb3 z2_2
    have z3_3 := cell_later hb3 z3_2
    have f0_3 := (cl.2 _ 0 lt2).trans f0_2
    have f1_3 := (cl.2 _ 1 lt2).trans f1_2
    have f2_3 := (cl.2 _ 2 lt2).trans f2_2
    have f3_3 := (cl.2 _ 3 lt2).trans f3_2
    have be3 := be2.trans (hb3.mono be2.size)
    have lt3 : w.heap.size < w3.heap.size := Nat.lt_of_lt_of_le lt2 hb3.size
    clear cl z0_2 f0_2 z1_2 f1_2 z2_2 f2_2 z3_2 f3_2
    go_wp2_with fail
    refine (HOk.out w2.heap.size _ c0_3 c1_3 c2_3 c3_3).mono ?_
    rintro e w4 ⟨rfl, hb4⟩
    have cl := bcell hb4
    have z0_4 := cell_later hb4 z0_3
    have z1_4 := cell_later hb4 z1_3
    have z2_4 := cell_later hb4 z2_3
    have z3_4 := cell_later hb4 z3_3
    have f0_4 := (cl.2 _ 0 lt3).trans f0_3
    have f1_4 := (cl.2 _ 1 lt3).trans f1_3
    have f2_4 := (cl.2 _ 2 lt3).trans f2_3
    have f3_4 := (cl.2 _ 3 lt3).trans f3_3
    have c0_4 := cell_later hb4 c0_3
    have c1_4 := cell_later hb4 c1_3
    have c2_4 := cell_later hb4 c2_3
    have c3_4 := cell_later hb4 c3_3
    have be4 := be3.trans (hb4.mono be3.size)
    have lt4 : w.heap.size < w4.heap.size := Nat.lt_of_lt_of_le lt3 hb4.size
    clear cl z0_3 f0_3 z1_3 f1_3 z2_3 f2_3 z3_3 f3_3 c0_3 c1_3 c2_3 c3_3
    go_wp2_with fail
    obtain ⟨r0, r1, r2, r3⟩ := put4 (.string hd) (.int .i64 a) (.int .i64 f) (.int .i64 t) z0_4 z1_4 z2_4 z3_4
    exact bodyPost_ret (v := .tuple #[.agg #[.string hd, .int .i64 a, .int .i64 f, .int .i64 t], .bool true]) (by simp [results, Tryd.results26, go_sem, r0, r1, r2, r3]) rfl ⟨rfl, ((((be4.setCell (by simp) _).setCell (by simp) _).setCell (by simp) _).setCell (by simp) _)⟩
set_option maxRecDepth 100000 in
set_option maxHeartbeats 3200000 in
theorem ReadDuct_i (s : ByteArray) (w : World) (hs : s.size ≤ 1048576) (hLi : Lies w) :
    Calls Tryd.prog 27 #[.string s] w fun e w' => e = .returned (.tuple #[.agg #[.string (rdDuctS s.data.toList), .int .i64 (rdDuctN s.data.toList 0), .int .i64 (rdDuctN s.data.toList 1), .int .i64 (rdDuctN s.data.toList 2)], .bool (rdDuctB s.data.toList)]) ∧ Below w.heap.size w w' := by
  have be0 : Below w.heap.size w (w.alloc (.cells #[.string ⟨#[]⟩, .int .i64 0, .int .i64 0, .int .i64 0] 39)) := by go_grown
  have z0_0 : ((w.alloc (.cells #[.string ⟨#[]⟩, .int .i64 0, .int .i64 0, .int .i64 0] 39))).cell? ⟨w.heap.size, 0, none⟩ = some (.string ⟨#[]⟩) := by go_simp
  have z1_0 : ((w.alloc (.cells #[.string ⟨#[]⟩, .int .i64 0, .int .i64 0, .int .i64 0] 39))).cell? ⟨w.heap.size, 1, none⟩ = some (.int .i64 0) := by go_simp
  have z2_0 : ((w.alloc (.cells #[.string ⟨#[]⟩, .int .i64 0, .int .i64 0, .int .i64 0] 39))).cell? ⟨w.heap.size, 2, none⟩ = some (.int .i64 0) := by go_simp
  have z3_0 : ((w.alloc (.cells #[.string ⟨#[]⟩, .int .i64 0, .int .i64 0, .int .i64 0] 39))).cell? ⟨w.heap.size, 3, none⟩ = some (.int .i64 0) := by go_simp
  have f0_0 : ((w.alloc (.cells #[.string ⟨#[]⟩, .int .i64 0, .int .i64 0, .int .i64 0] 39))).frozen? ⟨w.heap.size, 0, none⟩ = false := by go_simp
  have f1_0 : ((w.alloc (.cells #[.string ⟨#[]⟩, .int .i64 0, .int .i64 0, .int .i64 0] 39))).frozen? ⟨w.heap.size, 1, none⟩ = false := by go_simp
  have f2_0 : ((w.alloc (.cells #[.string ⟨#[]⟩, .int .i64 0, .int .i64 0, .int .i64 0] 39))).frozen? ⟨w.heap.size, 2, none⟩ = false := by go_simp
  have f3_0 : ((w.alloc (.cells #[.string ⟨#[]⟩, .int .i64 0, .int .i64 0, .int .i64 0] 39))).frozen? ⟨w.heap.size, 3, none⟩ = false := by go_simp
  have lt0 : w.heap.size < ((w.alloc (.cells #[.string ⟨#[]⟩, .int .i64 0, .int .i64 0, .int .i64 0] 39))).heap.size := by simp
  have HB : Hid (rdDuctB s.data.toList = (nmB (rst s.data.toList) 3 && ductB (mkS (spH 32 s.data.toList)) ((nmL (rst s.data.toList) 3).getD 0 0) ((nmL (rst s.data.toList) 3).getD 1 0) ((nmL (rst s.data.toList) 3).getD 2 0))) := Lib.hid rfl
  have HNO := Lib.hid (fun h => rdDuct_no (l := s.data.toList) h)
  have HYES := Lib.hid (fun h => rdDuct_yes (l := s.data.toList) h)
  have HRW := Lib.hid (fun W (hb : Below w.heap.size w W) => readWithId_any s 3 W hs (by omega) (hLi.later hb))
  have hxx := rdDuct_all (nmL_len (rst s.data.toList) 3)
  have hfit := nmL_fits (rst s.data.toList) 3
  have HBK : Hid (∀ a f t : Int, nmB (rst s.data.toList) 3 = true → nmL (rst s.data.toList) 3 = [a, f, t] → ductT (mkS (spH 32 s.data.toList)) a f t = s) := Lib.hid (fun _ _ _ h e => rdDuct_back h e)
  have HNE : Hid (nmB (rst s.data.toList) 3 = true → (s.data.toList == []) = false) := Lib.hid (fun h => by
    rw [beq_eq_false_iff_ne]
    intro e
    have := (rst_ne (nmB_parts h).1).2
    rw [e] at this
    simp at this)
  have HNY := Lib.hid (fun h => nmS_yes (l := s.data.toList) (n := 3) h)
  have hnz : (nmS s.data.toList 3).size ≤ maxLen := by
    have := nmS_size s.data.toList 3
    have := size_list s
    exact le_max (by omega)
  generalize (nmL (rst s.data.toList) 3).getD 0 0 = a at *
  generalize (nmL (rst s.data.toList) 3).getD 1 0 = f at *
  generalize (nmL (rst s.data.toList) 3).getD 2 0 = t at *
  have HE := Lib.hid hxx
  rw [hxx] at HRW hfit
  generalize rdDuctB s.data.toList = V at *
  generalize rdDuctS s.data.toList = X at *
  generalize rdDuctN s.data.toList 0 = N0 at *
  generalize rdDuctN s.data.toList 1 = N1 at *
  generalize rdDuctN s.data.toList 2 = N2 at *
  obtain ⟨hd, hhd⟩ : ∃ hd, hd = nmS s.data.toList 3 := ⟨_, rfl⟩
  rw [← hhd] at HRW HNY hnz
  have HT : Hid (∀ W, Below w.heap.size w W → Calls Tryd.prog 19 #[.agg #[.string hd, .int .i64 a, .int .i64 f, .int .i64 t]] W fun e w' => e = .returned (.string (ductS hd a f t)) ∧ Below W.heap.size W w') := Lib.hid (fun W hb => DuctText_i hd a f t W hnz hfit (hLi.later hb).tab)
  clear hhd hnz hfit hLi hxx
  cases hnm : nmB (rst s.data.toList) 3
  · have hV : V = false := by rw [HB.out, hnm]; rfl
    subst hV
    obtain ⟨rfl, rfl, rfl, rfl⟩ := HNO.out rfl
    rw [hnm] at HRW
    clear HB HNO HYES hnm HT HBK HNE HNY HE
    go_enter Tryd.func27, Tryd.ntmps27
    go_wp2_with fail
    generalize (w.alloc (.cells #[.string ⟨#[]⟩, .int .i64 0, .int .i64 0, .int .i64 0] 39)) = w0 at *
    refine (HRW.out _ be0).mono ?_
    rintro e w1 ⟨u, rfl, ho, hb1⟩
    obtain ⟨A2, c2, hu, -, -⟩ := ho.slice
    have hu : u = .slice A2 3 c2 := hu
    subst hu
    obtain ⟨g, rfl, hg, hrow⟩ := own_row (n := 3) ho (by omega) rfl
    have g0_1 : w1.cell? ⟨g, 0, none⟩ = some (.int .i64 a) := World.ownsRow.cellAt hrow 0 (by omega)
    have g1_1 : w1.cell? ⟨g, 1, none⟩ = some (.int .i64 f) := World.ownsRow.cellAt hrow 1 (by omega)
    have g2_1 : w1.cell? ⟨g, 2, none⟩ = some (.int .i64 t) := World.ownsRow.cellAt hrow 2 (by omega)
    clear ho hrow
    have cl := bcell hb1
    have z0_1 := cell_later hb1 z0_0
    have z1_1 := cell_later hb1 z1_0
    have z2_1 := cell_later hb1 z2_0
    have z3_1 := cell_later hb1 z3_0
    have f0_1 := (cl.2 _ 0 lt0).trans f0_0
    have f1_1 := (cl.2 _ 1 lt0).trans f1_0
    have f2_1 := (cl.2 _ 2 lt0).trans f2_0
    have f3_1 := (cl.2 _ 3 lt0).trans f3_0
    have be1 := be0.trans (hb1.mono be0.size)
    have lt1 : w.heap.size < w1.heap.size := Nat.lt_of_lt_of_le lt0 hb1.size
    clear cl z0_0 f0_0 z1_0 f1_0 z2_0 f2_0 z3_0 f3_0
    go_wp2_with fail
    go_region_held3 (fun w' => w'.cell? ⟨g, 0, none⟩ = some (.int .i64 a) ∧ w'.cell? ⟨g, 1, none⟩ = some (.int .i64 f) ∧ w'.cell? ⟨g, 2, none⟩ = some (.int .i64 t))
      (first
        | go_keep
        | exact ⟨Lib.cell?_alloc_some _ g0_1, Lib.cell?_alloc_some _ g1_1, Lib.cell?_alloc_some _ g2_1⟩)
      (first | fail)
    have hb2 : Below w1.heap.size w1 ((w1.alloc (.cells #[.string hd, .int .i64 a, .int .i64 f, .int .i64 t] 39)).drew) := Below.drew ((Below.refl _ _).alloc (Nat.le_refl _) _)
    have c0_2 : (((w1.alloc (.cells #[.string hd, .int .i64 a, .int .i64 f, .int .i64 t] 39)).drew)).cell? ⟨w1.heap.size, 0, none⟩ = some (.string hd) := by go_simp
    have c1_2 : (((w1.alloc (.cells #[.string hd, .int .i64 a, .int .i64 f, .int .i64 t] 39)).drew)).cell? ⟨w1.heap.size, 1, none⟩ = some (.int .i64 a) := by go_simp
    have c2_2 : (((w1.alloc (.cells #[.string hd, .int .i64 a, .int .i64 f, .int .i64 t] 39)).drew)).cell? ⟨w1.heap.size, 2, none⟩ = some (.int .i64 f) := by go_simp
    have c3_2 : (((w1.alloc (.cells #[.string hd, .int .i64 a, .int .i64 f, .int .i64 t] 39)).drew)).cell? ⟨w1.heap.size, 3, none⟩ = some (.int .i64 t) := by go_simp
    generalize ((w1.alloc (.cells #[.string hd, .int .i64 a, .int .i64 f, .int .i64 t] 39)).drew) = w2 at *
    have cl := bcell hb2
    have z0_2 := cell_later hb2 z0_1
    have z1_2 := cell_later hb2 z1_1
    have z2_2 := cell_later hb2 z2_1
    have z3_2 := cell_later hb2 z3_1
    have f0_2 := (cl.2 _ 0 lt1).trans f0_1
    have f1_2 := (cl.2 _ 1 lt1).trans f1_1
    have f2_2 := (cl.2 _ 2 lt1).trans f2_1
    have f3_2 := (cl.2 _ 3 lt1).trans f3_1
    have be2 := be1.trans (hb2.mono be1.size)
    have lt2 : w.heap.size < w2.heap.size := Nat.lt_of_lt_of_le lt1 hb2.size
    clear cl z0_1 f0_1 z1_1 f1_1 z2_1 f2_1 z3_1 f3_1
    go_wp2_with fail
    obtain ⟨r0, r1, r2, r3⟩ := put4 (.string ⟨#[]⟩) (.int .i64 0) (.int .i64 0) (.int .i64 0) z0_2 z1_2 z2_2 z3_2
    exact bodyPost_ret (v := .tuple #[.agg #[.string ⟨#[]⟩, .int .i64 0, .int .i64 0, .int .i64 0], .bool false]) (by simp [results, Tryd.results27, go_sem, r0, r1, r2, r3]) rfl ⟨rfl, ((((be2.setCell (by simp) _).setCell (by simp) _).setCell (by simp) _).setCell (by simp) _)⟩
  rw [hnm, Bool.true_and] at HB
  rw [hnm] at HRW
  have hbk := HBK.out a f t hnm HE.out
  have hne := HNE.out hnm
  rw [← HNY.out hnm] at HB HYES hbk
  clear HBK HNE HNY HE hnm
  cases hv : ductB hd a f t
  · have hV : V = false := by rw [HB.out]; exact hv
    subst hV
    obtain ⟨rfl, rfl, rfl, rfl⟩ := HNO.out rfl
    have hx : ductS hd a f t = ⟨#[]⟩ := by unfold ductS; rw [hv]; rfl
    rw [hx] at HT
    have hdd : ((⟨#[]⟩ : ByteArray).toList == s.toList) = false := by
      rw [beq_eq_false_iff_ne] at hne ⊢
      rw [ByteArray.toList_eq, ByteArray.toList_eq]
      exact fun e => hne e.symm
    obtain ⟨XX, hXX⟩ : ∃ XX : ByteArray, XX = ⟨#[]⟩ := ⟨_, rfl⟩
    rw [← hXX] at hdd HT
    clear HB HNO HYES hv hx hbk hne hXX
    go_enter Tryd.func27, Tryd.ntmps27
    go_wp2_with fail
    generalize (w.alloc (.cells #[.string ⟨#[]⟩, .int .i64 0, .int .i64 0, .int .i64 0] 39)) = w0 at *
    refine (HRW.out _ be0).mono ?_
    rintro e w1 ⟨u, rfl, ho, hb1⟩
    obtain ⟨A2, c2, hu, -, -⟩ := ho.slice
    have hu : u = .slice A2 3 c2 := hu
    subst hu
    obtain ⟨g, rfl, hg, hrow⟩ := own_row (n := 3) ho (by omega) rfl
    have g0_1 : w1.cell? ⟨g, 0, none⟩ = some (.int .i64 a) := World.ownsRow.cellAt hrow 0 (by omega)
    have g1_1 : w1.cell? ⟨g, 1, none⟩ = some (.int .i64 f) := World.ownsRow.cellAt hrow 1 (by omega)
    have g2_1 : w1.cell? ⟨g, 2, none⟩ = some (.int .i64 t) := World.ownsRow.cellAt hrow 2 (by omega)
    clear ho hrow
    have cl := bcell hb1
    have z0_1 := cell_later hb1 z0_0
    have z1_1 := cell_later hb1 z1_0
    have z2_1 := cell_later hb1 z2_0
    have z3_1 := cell_later hb1 z3_0
    have f0_1 := (cl.2 _ 0 lt0).trans f0_0
    have f1_1 := (cl.2 _ 1 lt0).trans f1_0
    have f2_1 := (cl.2 _ 2 lt0).trans f2_0
    have f3_1 := (cl.2 _ 3 lt0).trans f3_0
    have be1 := be0.trans (hb1.mono be0.size)
    have lt1 : w.heap.size < w1.heap.size := Nat.lt_of_lt_of_le lt0 hb1.size
    clear cl z0_0 f0_0 z1_0 f1_0 z2_0 f2_0 z3_0 f3_0
    go_wp2_with fail
    go_region_held3 (fun w' => w'.cell? ⟨g, 0, none⟩ = some (.int .i64 a) ∧ w'.cell? ⟨g, 1, none⟩ = some (.int .i64 f) ∧ w'.cell? ⟨g, 2, none⟩ = some (.int .i64 t))
      (first
        | go_keep
        | exact ⟨Lib.cell?_alloc_some _ g0_1, Lib.cell?_alloc_some _ g1_1, Lib.cell?_alloc_some _ g2_1⟩)
      (first | fail)
    have hb2 : Below w1.heap.size w1 ((w1.alloc (.cells #[.string hd, .int .i64 a, .int .i64 f, .int .i64 t] 39)).drew) := Below.drew ((Below.refl _ _).alloc (Nat.le_refl _) _)
    have c0_2 : (((w1.alloc (.cells #[.string hd, .int .i64 a, .int .i64 f, .int .i64 t] 39)).drew)).cell? ⟨w1.heap.size, 0, none⟩ = some (.string hd) := by go_simp
    have c1_2 : (((w1.alloc (.cells #[.string hd, .int .i64 a, .int .i64 f, .int .i64 t] 39)).drew)).cell? ⟨w1.heap.size, 1, none⟩ = some (.int .i64 a) := by go_simp
    have c2_2 : (((w1.alloc (.cells #[.string hd, .int .i64 a, .int .i64 f, .int .i64 t] 39)).drew)).cell? ⟨w1.heap.size, 2, none⟩ = some (.int .i64 f) := by go_simp
    have c3_2 : (((w1.alloc (.cells #[.string hd, .int .i64 a, .int .i64 f, .int .i64 t] 39)).drew)).cell? ⟨w1.heap.size, 3, none⟩ = some (.int .i64 t) := by go_simp
    generalize ((w1.alloc (.cells #[.string hd, .int .i64 a, .int .i64 f, .int .i64 t] 39)).drew) = w2 at *
    have cl := bcell hb2
    have z0_2 := cell_later hb2 z0_1
    have z1_2 := cell_later hb2 z1_1
    have z2_2 := cell_later hb2 z2_1
    have z3_2 := cell_later hb2 z3_1
    have f0_2 := (cl.2 _ 0 lt1).trans f0_1
    have f1_2 := (cl.2 _ 1 lt1).trans f1_1
    have f2_2 := (cl.2 _ 2 lt1).trans f2_1
    have f3_2 := (cl.2 _ 3 lt1).trans f3_1
    have be2 := be1.trans (hb2.mono be1.size)
    have lt2 : w.heap.size < w2.heap.size := Nat.lt_of_lt_of_le lt1 hb2.size
    clear cl z0_1 f0_1 z1_1 f1_1 z2_1 f2_1 z3_1 f3_1
    go_wp2_with fail
    refine (HT.out _ be2).mono ?_
    rintro e w3 ⟨rfl, hb3⟩
    have cl := bcell hb3
    have z0_3 := cell_later hb3 z0_2
    have z1_3 := cell_later hb3 z1_2
    have z2_3 := cell_later hb3 z2_2
    have z3_3 := cell_later hb3 z3_2
    have f0_3 := (cl.2 _ 0 lt2).trans f0_2
    have f1_3 := (cl.2 _ 1 lt2).trans f1_2
    have f2_3 := (cl.2 _ 2 lt2).trans f2_2
    have f3_3 := (cl.2 _ 3 lt2).trans f3_2
    have c0_3 := cell_later hb3 c0_2
    have c1_3 := cell_later hb3 c1_2
    have c2_3 := cell_later hb3 c2_2
    have c3_3 := cell_later hb3 c3_2
    have be3 := be2.trans (hb3.mono be2.size)
    have lt3 : w.heap.size < w3.heap.size := Nat.lt_of_lt_of_le lt2 hb3.size
    clear cl z0_2 f0_2 z1_2 f1_2 z2_2 f2_2 z3_2 f3_2 c0_2 c1_2 c2_2 c3_2
    go_wp2_with fail
    obtain ⟨r0, r1, r2, r3⟩ := put4 (.string ⟨#[]⟩) (.int .i64 0) (.int .i64 0) (.int .i64 0) z0_3 z1_3 z2_3 z3_3
    exact bodyPost_ret (v := .tuple #[.agg #[.string ⟨#[]⟩, .int .i64 0, .int .i64 0, .int .i64 0], .bool false]) (by simp [results, Tryd.results27, go_sem, r0, r1, r2, r3]) rfl ⟨rfl, ((((be3.setCell (by simp) _).setCell (by simp) _).setCell (by simp) _).setCell (by simp) _)⟩
  · have hV : V = true := by rw [HB.out]; exact hv
    subst hV
    obtain ⟨e0, e1, e2, e3⟩ := HYES.out rfl
    rw [e0, e1, e2, e3]
    clear e0 e1 e2 e3
    have hx : ductS hd a f t = s := by unfold ductS; rw [hv]; exact hbk
    rw [hx] at HT
    have hdd : (s.toList == s.toList) = true := by rw [beq_iff_eq]
    clear HB HNO HYES hv hx hbk hne
    go_enter Tryd.func27, Tryd.ntmps27
    go_wp2_with fail
    generalize (w.alloc (.cells #[.string ⟨#[]⟩, .int .i64 0, .int .i64 0, .int .i64 0] 39)) = w0 at *
    refine (HRW.out _ be0).mono ?_
    rintro e w1 ⟨u, rfl, ho, hb1⟩
    obtain ⟨A2, c2, hu, -, -⟩ := ho.slice
    have hu : u = .slice A2 3 c2 := hu
    subst hu
    obtain ⟨g, rfl, hg, hrow⟩ := own_row (n := 3) ho (by omega) rfl
    have g0_1 : w1.cell? ⟨g, 0, none⟩ = some (.int .i64 a) := World.ownsRow.cellAt hrow 0 (by omega)
    have g1_1 : w1.cell? ⟨g, 1, none⟩ = some (.int .i64 f) := World.ownsRow.cellAt hrow 1 (by omega)
    have g2_1 : w1.cell? ⟨g, 2, none⟩ = some (.int .i64 t) := World.ownsRow.cellAt hrow 2 (by omega)
    clear ho hrow
    have cl := bcell hb1
    have z0_1 := cell_later hb1 z0_0
    have z1_1 := cell_later hb1 z1_0
    have z2_1 := cell_later hb1 z2_0
    have z3_1 := cell_later hb1 z3_0
    have f0_1 := (cl.2 _ 0 lt0).trans f0_0
    have f1_1 := (cl.2 _ 1 lt0).trans f1_0
    have f2_1 := (cl.2 _ 2 lt0).trans f2_0
    have f3_1 := (cl.2 _ 3 lt0).trans f3_0
    have be1 := be0.trans (hb1.mono be0.size)
    have lt1 : w.heap.size < w1.heap.size := Nat.lt_of_lt_of_le lt0 hb1.size
    clear cl z0_0 f0_0 z1_0 f1_0 z2_0 f2_0 z3_0 f3_0
    go_wp2_with fail
    go_region_held3 (fun w' => w'.cell? ⟨g, 0, none⟩ = some (.int .i64 a) ∧ w'.cell? ⟨g, 1, none⟩ = some (.int .i64 f) ∧ w'.cell? ⟨g, 2, none⟩ = some (.int .i64 t))
      (first
        | go_keep
        | exact ⟨Lib.cell?_alloc_some _ g0_1, Lib.cell?_alloc_some _ g1_1, Lib.cell?_alloc_some _ g2_1⟩)
      (first | fail)
    have hb2 : Below w1.heap.size w1 ((w1.alloc (.cells #[.string hd, .int .i64 a, .int .i64 f, .int .i64 t] 39)).drew) := Below.drew ((Below.refl _ _).alloc (Nat.le_refl _) _)
    have c0_2 : (((w1.alloc (.cells #[.string hd, .int .i64 a, .int .i64 f, .int .i64 t] 39)).drew)).cell? ⟨w1.heap.size, 0, none⟩ = some (.string hd) := by go_simp
    have c1_2 : (((w1.alloc (.cells #[.string hd, .int .i64 a, .int .i64 f, .int .i64 t] 39)).drew)).cell? ⟨w1.heap.size, 1, none⟩ = some (.int .i64 a) := by go_simp
    have c2_2 : (((w1.alloc (.cells #[.string hd, .int .i64 a, .int .i64 f, .int .i64 t] 39)).drew)).cell? ⟨w1.heap.size, 2, none⟩ = some (.int .i64 f) := by go_simp
    have c3_2 : (((w1.alloc (.cells #[.string hd, .int .i64 a, .int .i64 f, .int .i64 t] 39)).drew)).cell? ⟨w1.heap.size, 3, none⟩ = some (.int .i64 t) := by go_simp
    generalize ((w1.alloc (.cells #[.string hd, .int .i64 a, .int .i64 f, .int .i64 t] 39)).drew) = w2 at *
    have cl := bcell hb2
    have z0_2 := cell_later hb2 z0_1
    have z1_2 := cell_later hb2 z1_1
    have z2_2 := cell_later hb2 z2_1
    have z3_2 := cell_later hb2 z3_1
    have f0_2 := (cl.2 _ 0 lt1).trans f0_1
    have f1_2 := (cl.2 _ 1 lt1).trans f1_1
    have f2_2 := (cl.2 _ 2 lt1).trans f2_1
    have f3_2 := (cl.2 _ 3 lt1).trans f3_1
    have be2 := be1.trans (hb2.mono be1.size)
    have lt2 : w.heap.size < w2.heap.size := Nat.lt_of_lt_of_le lt1 hb2.size
    clear cl z0_1 f0_1 z1_1 f1_1 z2_1 f2_1 z3_1 f3_1
    go_wp2_with fail
    refine (HT.out _ be2).mono ?_
    rintro e w3 ⟨rfl, hb3⟩
    have cl := bcell hb3
    have z0_3 := cell_later hb3 z0_2
    have z1_3 := cell_later hb3 z1_2
    have z2_3 := cell_later hb3 z2_2
    have z3_3 := cell_later hb3 z3_2
    have f0_3 := (cl.2 _ 0 lt2).trans f0_2
    have f1_3 := (cl.2 _ 1 lt2).trans f1_2
    have f2_3 := (cl.2 _ 2 lt2).trans f2_2
    have f3_3 := (cl.2 _ 3 lt2).trans f3_2
    have c0_3 := cell_later hb3 c0_2
    have c1_3 := cell_later hb3 c1_2
    have c2_3 := cell_later hb3 c2_2
    have c3_3 := cell_later hb3 c3_2
    have be3 := be2.trans (hb3.mono be2.size)
    have lt3 : w.heap.size < w3.heap.size := Nat.lt_of_lt_of_le lt2 hb3.size
    clear cl z0_2 f0_2 z1_2 f1_2 z2_2 f2_2 z3_2 f3_2 c0_2 c1_2 c2_2 c3_2
    go_wp2_with fail
    obtain ⟨r0, r1, r2, r3⟩ := put4 (.string hd) (.int .i64 a) (.int .i64 f) (.int .i64 t) z0_3 z1_3 z2_3 z3_3
    exact bodyPost_ret (v := .tuple #[.agg #[.string hd, .int .i64 a, .int .i64 f, .int .i64 t], .bool true]) (by simp [results, Tryd.results27, go_sem, r0, r1, r2, r3]) rfl ⟨rfl, ((((be3.setCell (by simp) _).setCell (by simp) _).setCell (by simp) _).setCell (by simp) _)⟩
theorem eqDuct_yes (y : ByteArray) (a f t : Int) (w : World) :
    Calls Tryd.prog 28 #[.agg #[.string y, .int .i64 a, .int .i64 f, .int .i64 t], .agg #[.string y, .int .i64 a, .int .i64 f, .int .i64 t]] w fun e w' => e = .returned (.bool true) ∧ Below w.heap.size w w' := by
  go_enter Tryd.func28, Tryd.ntmps28
  go_wp2
  go_ret
  exact ⟨rfl, by go_grown⟩
set_option maxRecDepth 100000 in
set_option maxHeartbeats 1600000 in
theorem fnExactReadDuct_walk (s : ByteArray) (_ : s.size ≤ maxLen) (w : World) (hLi : Lies w) :
    Calls Tryd.prog 8 #[.string s] w fun e w' => e = .returned (.bool true) ∧ Below w.heap.size w w' := by
  by_cases hs : s.size ≤ 1048576
  · have hs' : ¬ ((1048576 : Int) < (s.size : Int)) := by omega
    have HS := Lib.hid (fun W => ReadDuct_s s W hs)
    have HI := Lib.hid (fun W (hb : Below w.heap.size w W) => ReadDuct_i s W hs (hLi.later hb))
    have HE := Lib.hid (fun W => eqDuct_yes (rdDuctS s.data.toList) (rdDuctN s.data.toList 0) (rdDuctN s.data.toList 1) (rdDuctN s.data.toList 2) W)
    clear hLi
    generalize rdDuctS s.data.toList = y at *
    generalize rdDuctN s.data.toList 0 = a at *
    generalize rdDuctN s.data.toList 1 = f at *
    generalize rdDuctN s.data.toList 2 = t at *
    generalize rdDuctB s.data.toList = v at *
    go_enter Tryd.func8, Tryd.ntmps8
    go_wp2_with fail
    refine (HS.out _).mono ?_
    rintro e w1 ⟨rfl, hb1⟩
    go_wp2_with fail
    have be1 : Below w.heap.size w (w1.alloc (.cells #[.string y, .int .i64 a, .int .i64 f, .int .i64 t] 39)) := hb1.alloc hb1.size _
    have c0_1 : (w1.alloc (.cells #[.string y, .int .i64 a, .int .i64 f, .int .i64 t] 39)).cell? ⟨w1.heap.size, 0, none⟩ = some (.string y) := by go_simp
    have c1_1 : (w1.alloc (.cells #[.string y, .int .i64 a, .int .i64 f, .int .i64 t] 39)).cell? ⟨w1.heap.size, 1, none⟩ = some (.int .i64 a) := by go_simp
    have c2_1 : (w1.alloc (.cells #[.string y, .int .i64 a, .int .i64 f, .int .i64 t] 39)).cell? ⟨w1.heap.size, 2, none⟩ = some (.int .i64 f) := by go_simp
    have c3_1 : (w1.alloc (.cells #[.string y, .int .i64 a, .int .i64 f, .int .i64 t] 39)).cell? ⟨w1.heap.size, 3, none⟩ = some (.int .i64 t) := by go_simp
    generalize w1.alloc (.cells #[.string y, .int .i64 a, .int .i64 f, .int .i64 t] 39) = w1' at *
    refine (HI.out _ be1).mono ?_
    rintro e w2 ⟨rfl, hb2⟩
    have e0 := Lib.cell?_alloc_some (.cells #[.string y, .int .i64 a, .int .i64 f, .int .i64 t] 39) (cell_later hb2 c0_1)
    have e1 := Lib.cell?_alloc_some (.cells #[.string y, .int .i64 a, .int .i64 f, .int .i64 t] 39) (cell_later hb2 c1_1)
    have e2 := Lib.cell?_alloc_some (.cells #[.string y, .int .i64 a, .int .i64 f, .int .i64 t] 39) (cell_later hb2 c2_1)
    have e3 := Lib.cell?_alloc_some (.cells #[.string y, .int .i64 a, .int .i64 f, .int .i64 t] 39) (cell_later hb2 c3_1)
    have be2 : Below w.heap.size w w2 := be1.trans (hb2.mono be1.size)
    have be3 : Below w.heap.size w (w2.alloc (.cells #[.string y, .int .i64 a, .int .i64 f, .int .i64 t] 39)) := be2.alloc be2.size _
    have g0 : (w2.alloc (.cells #[.string y, .int .i64 a, .int .i64 f, .int .i64 t] 39)).cell? ⟨w2.heap.size, 0, none⟩ = some (.string y) := by go_simp
    have g1 : (w2.alloc (.cells #[.string y, .int .i64 a, .int .i64 f, .int .i64 t] 39)).cell? ⟨w2.heap.size, 1, none⟩ = some (.int .i64 a) := by go_simp
    have g2 : (w2.alloc (.cells #[.string y, .int .i64 a, .int .i64 f, .int .i64 t] 39)).cell? ⟨w2.heap.size, 2, none⟩ = some (.int .i64 f) := by go_simp
    have g3 : (w2.alloc (.cells #[.string y, .int .i64 a, .int .i64 f, .int .i64 t] 39)).cell? ⟨w2.heap.size, 3, none⟩ = some (.int .i64 t) := by go_simp
    go_wp2_with fail
    refine (HE.out _).mono ?_
    rintro e w4 ⟨rfl, hb4⟩
    have be4 := be3.trans (hb4.mono be3.size)
    cases v <;> (go_wp2_with fail; go_ret; exact ⟨rfl, be4⟩)
  · have hs' : (1048576 : Int) < (s.size : Int) := by omega
    go_enter Tryd.func8, Tryd.ntmps8
    go_wp2_with fail
    go_ret
    exact ⟨rfl, by go_grown⟩
end Go.Proofs.YtemidjejelmdlaaDoor
