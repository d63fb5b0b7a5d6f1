/- So many numbers read back from a text, by the program. Conditions: the library's variables lie in memory; the lengths that each theorem names. -/
import Derived.Test.YtemidjejelmdlaaDoorRdD
namespace Go.Proofs.YtemidjejelmdlaaDoor
open Go.RowKit Go.PlainAid
open Pl
def nmB (l : List UInt8) (n : Nat) : Bool := readB l && decide ((readV l).length = n)
def nmL (l : List UInt8) (n : Nat) : List Int := if nmB l n then readV l else List.replicate n 0
theorem nmL_len (l : List UInt8) (n : Nat) : (nmL l n).length = n := by
  unfold nmL
  split
  · rename_i h
    unfold nmB at h
    rw [Bool.and_eq_true] at h
    exact of_decide_eq_true h.2
  · simp
theorem nmL_yes {l : List UInt8} {n : Nat} (h : nmB l n = true) : nmL l n = readV l := by unfold nmL; rw [h]; rfl
theorem nmL_no {l : List UInt8} {n : Nat} (h : nmB l n = false) : nmL l n = List.replicate n 0 := by unfold nmL; rw [h]; rfl
theorem nmL_fits (l : List UInt8) (n : Nat) : Fits (nmL l n) := by
  intro x hx
  unfold nmL at hx
  split at hx
  · rename_i h
    unfold nmB at h
    rw [Bool.and_eq_true] at h
    have := readV_bd h.1 x hx
    omega
  · have := List.eq_of_mem_replicate hx
    omega
theorem nmB_parts {l : List UInt8} {n : Nat} (h : nmB l n = true) : readB l = true ∧ (readV l).length = n := by
  unfold nmB at h
  rw [Bool.and_eq_true] at h
  exact ⟨h.1, of_decide_eq_true h.2⟩
theorem replicate_vals (n : Nat) : List.replicate n (Value.int .i64 0) = vals (List.replicate n 0) := by unfold vals; rw [List.map_replicate]
set_option maxRecDepth 100000 in
set_option maxHeartbeats 1600000 in
theorem readNumbers_any (s : ByteArray) (n : Nat) (w : World) (hs : s.size ≤ 1048576) (hn : n ≤ 64) (hL : Lies w) :
    Calls Tryd.prog 41 #[.string s, .int .i64 (n : Int)] w fun e w' => ∃ u, e = .returned (.tuple #[u, .bool (nmB s.data.toList n)]) ∧ Own w.heap.size w' u (nmL s.data.toList n) ∧ Below w.heap.size w w' := by
  have HL := Lib.hid (ReadList_i s w hs hL)
  generalize s.data.toList = l at *
  obtain ⟨i1, hi, hz0, hz1, hz2⟩ := info_parts infoI
  have HG := Lib.hid (And.intro hi (And.intro hz0 (And.intro hz1 hz2)))
  have hbb : i1.bytes * n ≤ 281474976710656 := by rw [hz2]; omega
  have hmx : n ≤ maxLen := le_max (by omega)
  clear hi hz0 hz1 hz2 hL
  cases hr : readB l
  · have hnm : nmB l n = false := by unfold nmB; rw [hr]; rfl
    have HE := Lib.hid (readL_no hr)
    rw [hr, HE.out] at HL
    rw [hnm, nmL_no hnm]
    clear hr hnm HE
    go_enter Tryd.func41, Tryd.ntmps41
    go_wp2_with fail
    refine HL.out.mono ?_
    rintro e w1 ⟨u, rfl, ho, hb1⟩
    have hsz1 := hb1.size
    go_wp2_with (at_make; refine wpList_make_full _ rfl (.tmp 21) (.tmp 21) 57 rfl w1.heap.size 2 i1 (.int .i64 0) 1 Tryd.underlying57 HG.out.1 HG.out.2.1 HG.out.2.2.1 .i64 .i64 (n : Int) (n : Int) n rfl rfl rfl rfl hbb hmx (Nat.le_refl _) ?_; intro w2 hown hgr)
    have hb2 : Below w.heap.size w w2 := hb1.grown hgr hsz1 (fun k hk => by cases hk)
    have HO : Hid (Own w1.heap.size w2 (.slice (some ⟨w1.heap.size, 0, none⟩) n n) (List.replicate n 0)) := Lib.hid (by
      unfold Own
      rw [List.length_replicate, ← replicate_vals]
      have e : (madeCells (Value.int .i64 0).cells (n * 1)).toList = List.replicate n (Value.int .i64 0) := by
        rw [Nat.mul_one]; exact toList_madeCells_one _ _
      rw [e] at hown
      exact hown)
    clear hown hgr hbb hmx
    go_wp2_with fail
    go_ret2
    exact ⟨_, rfl, HO.out.base (fun g h => by have := (World.ownsRow.lt HO.out g h).1; omega), hb2⟩
  have HE := Lib.hid (readL_yes hr)
  rw [hr, HE.out] at HL
  by_cases hn' : (readV l).length = n
  · have hnm : nmB l n = true := by unfold nmB; rw [hr, decide_eq_true hn']; rfl
    rw [hnm, nmL_yes hnm]
    clear hr hnm HE
    generalize readV l = xs at *
    go_enter Tryd.func41, Tryd.ntmps41
    go_wp2_with fail
    refine HL.out.mono ?_
    rintro e w1 ⟨u, rfl, ho, hb1⟩
    obtain ⟨AL, cl, hu, -, -⟩ := ho.slice
    rw [hn'] at hu
    subst hu
    have HO := Lib.hid ho
    clear ho hn' hbb hmx
    go_wp2_with fail
    go_ret2
    exact ⟨_, rfl, HO.out, hb1⟩
  · have hnm : nmB l n = false := by unfold nmB; rw [hr, decide_eq_false hn']; rfl
    rw [hnm, nmL_no hnm]
    clear hr hnm HE
    generalize readV l = xs at *
    go_enter Tryd.func41, Tryd.ntmps41
    go_wp2_with fail
    refine HL.out.mono ?_
    rintro e w1 ⟨u, rfl, ho, hb1⟩
    obtain ⟨AL, cl, rfl, -, -⟩ := ho.slice
    have hnb : ((xs.length : Int) == (n : Int)) = false := by rw [beq_eq_false_iff_ne]; omega
    have hsz1 := hb1.size
    clear hn' ho
    go_wp2_with (at_make; refine wpList_make_full _ rfl (.tmp 21) (.tmp 21) 57 rfl w1.heap.size 2 i1 (.int .i64 0) 1 Tryd.underlying57 HG.out.1 HG.out.2.1 HG.out.2.2.1 .i64 .i64 (n : Int) (n : Int) n rfl rfl rfl rfl hbb hmx (Nat.le_refl _) ?_; intro w2 hown hgr)
    have hb2 : Below w.heap.size w w2 := hb1.grown hgr hsz1 (fun k hk => by cases hk)
    have HO : Hid (Own w1.heap.size w2 (.slice (some ⟨w1.heap.size, 0, none⟩) n n) (List.replicate n 0)) := Lib.hid (by
      unfold Own
      rw [List.length_replicate, ← replicate_vals]
      have e : (madeCells (Value.int .i64 0).cells (n * 1)).toList = List.replicate n (Value.int .i64 0) := by
        rw [Nat.mul_one]; exact toList_madeCells_one _ _
      rw [e] at hown
      exact hown)
    clear hown hgr hbb hmx
    go_wp2_with fail
    go_ret2
    exact ⟨_, rfl, HO.out.base (fun g h => by have := (World.ownsRow.lt HO.out g h).1; omega), hb2⟩
set_option maxHeartbeats 800000 in
theorem ReadDusting_s (s : ByteArray) (w : World) (hs : s.size ≤ 1048576) :
    Calls Tryd.prog 20 #[.string s] w fun e w' => e = .returned (.tuple #[.agg #[.int .i64 (rd4 s.data.toList 0), .int .i64 (rd4 s.data.toList 1), .int .i64 (rd4 s.data.toList 2), .int .i64 (rd4 s.data.toList 3)], .bool (rdB s.data.toList)]) ∧ Below w.heap.size w w' := by
  have be0 : Below w.heap.size w (w.alloc (.cells #[.int .i64 0, .int .i64 0, .int .i64 0, .int .i64 0] 25)) := by go_grown
  have z0_0 : ((w.alloc (.cells #[.int .i64 0, .int .i64 0, .int .i64 0, .int .i64 0] 25))).cell? ⟨w.heap.size, 0, none⟩ = some (.int .i64 0) := by go_simp
  have z1_0 : ((w.alloc (.cells #[.int .i64 0, .int .i64 0, .int .i64 0, .int .i64 0] 25))).cell? ⟨w.heap.size, 1, none⟩ = some (.int .i64 0) := by go_simp
  have z2_0 : ((w.alloc (.cells #[.int .i64 0, .int .i64 0, .int .i64 0, .int .i64 0] 25))).cell? ⟨w.heap.size, 2, none⟩ = some (.int .i64 0) := by go_simp
  have z3_0 : ((w.alloc (.cells #[.int .i64 0, .int .i64 0, .int .i64 0, .int .i64 0] 25))).cell? ⟨w.heap.size, 3, none⟩ = some (.int .i64 0) := by go_simp
  have f_0 : ∀ i, ((w.alloc (.cells #[.int .i64 0, .int .i64 0, .int .i64 0, .int .i64 0] 25))).frozen? ⟨w.heap.size, i, none⟩ = false := fun i => by go_simp
  have lt0 : w.heap.size < ((w.alloc (.cells #[.int .i64 0, .int .i64 0, .int .i64 0, .int .i64 0] 25))).heap.size := by simp
  have HL := Lib.hid (fun W => l14Read_any s W hs)
  generalize s.data.toList = l at *
  generalize rd4 l 0 = a at *
  generalize rd4 l 1 = f at *
  generalize rd4 l 2 = t at *
  generalize rd4 l 3 = d at *
  generalize rdB l = v at *
  go_enter Tryd.func20, Tryd.ntmps20
  go_wp2_with fail
  generalize (w.alloc (.cells #[.int .i64 0, .int .i64 0, .int .i64 0, .int .i64 0] 25)) = w0 at *
  refine (HL.out _).mono ?_
  rintro e w1 ⟨rfl, hb1⟩
  (have cl1 := (bcell hb1)); have z0_1 := cell_later hb1 z0_0; have z1_1 := cell_later hb1 z1_0; have z2_1 := cell_later hb1 z2_0; have z3_1 := cell_later hb1 z3_0; have f0_1 := (cl1.2 _ 0 lt0).trans (f_0 0); have f1_1 := (cl1.2 _ 1 lt0).trans (f_0 1); have f2_1 := (cl1.2 _ 2 lt0).trans (f_0 2); have f3_1 := (cl1.2 _ 3 lt0).trans (f_0 3); have be1 := be0.trans (hb1.mono be0.size); clear cl1 z0_0 z1_0 z2_0 z3_0
  go_wp2_with fail
  obtain ⟨r0, r1, r2, r3⟩ := put4 (.int .i64 a) (.int .i64 f) (.int .i64 t) (.int .i64 d) z0_1 z1_1 z2_1 z3_1
  exact bodyPost_ret (v := .tuple #[.agg #[.int .i64 a, .int .i64 f, .int .i64 t, .int .i64 d], .bool v]) (by simp [results, Tryd.results20, go_sem, r0, r1, r2, r3]) rfl ⟨rfl, (((be1.setCell (by simp) _).setCell (by simp) _).setCell (by simp) _).setCell (by simp) _⟩
end Go.Proofs.YtemidjejelmdlaaDoor
