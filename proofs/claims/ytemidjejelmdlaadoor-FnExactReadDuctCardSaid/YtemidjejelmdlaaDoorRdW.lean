/- The walk of the law on a task that makes dust read back from its text. Conditions: the library's variables lie in memory. -/
import Derived.Test.YtemidjejelmdlaaDoorRdM
namespace Go.Proofs.YtemidjejelmdlaaDoor
open Go.RowKit Go.PlainAid
open Pl
theorem eqDusting_yes (a f t d : Int) (w : World) :
    Calls Tryd.prog 22 #[.agg #[.int .i64 a, .int .i64 f, .int .i64 t, .int .i64 d], .agg #[.int .i64 a, .int .i64 f, .int .i64 t, .int .i64 d]] w fun e w' => e = .returned (.bool true) ∧ Below w.heap.size w w' := by
  go_enter Tryd.func22, Tryd.ntmps22
  go_wp2
  go_ret
  exact ⟨rfl, by go_grown⟩
set_option maxRecDepth 100000 in
set_option maxHeartbeats 1600000 in
theorem fnExactReadDusting_walk (s : ByteArray) (_ : s.size ≤ maxLen) (w : World) (hLi : Lies w) :
    Calls Tryd.prog 6 #[.string s] w fun e w' => e = .returned (.bool true) ∧ Below w.heap.size w w' := by
  by_cases hs : s.size ≤ 1048576
  · have hs' : ¬ ((1048576 : Int) < (s.size : Int)) := by omega
    have HS := Lib.hid (fun W => ReadDusting_s s W hs)
    have HI := Lib.hid (fun W (hb : Below w.heap.size w W) => ReadDusting_i s W hs (hLi.later hb))
    have HE := Lib.hid (fun W => eqDusting_yes (rd4 s.data.toList 0) (rd4 s.data.toList 1) (rd4 s.data.toList 2) (rd4 s.data.toList 3) W)
    clear hLi
    generalize rd4 s.data.toList 0 = a at *
    generalize rd4 s.data.toList 1 = f at *
    generalize rd4 s.data.toList 2 = t at *
    generalize rd4 s.data.toList 3 = d at *
    generalize rdB s.data.toList = v at *
    go_enter Tryd.func6, Tryd.ntmps6
    go_wp2_with fail
    refine (HS.out _).mono ?_
    rintro e w1 ⟨rfl, hb1⟩
    go_wp2_with fail
    have be1 : Below w.heap.size w (w1.alloc (.cells #[.int .i64 a, .int .i64 f, .int .i64 t, .int .i64 d] 25)) := hb1.alloc hb1.size _
    have c0_1 : ((w1.alloc (.cells #[.int .i64 a, .int .i64 f, .int .i64 t, .int .i64 d] 25))).cell? ⟨w1.heap.size, 0, none⟩ = some (.int .i64 a) := by go_simp
    have c1_1 : ((w1.alloc (.cells #[.int .i64 a, .int .i64 f, .int .i64 t, .int .i64 d] 25))).cell? ⟨w1.heap.size, 1, none⟩ = some (.int .i64 f) := by go_simp
    have c2_1 : ((w1.alloc (.cells #[.int .i64 a, .int .i64 f, .int .i64 t, .int .i64 d] 25))).cell? ⟨w1.heap.size, 2, none⟩ = some (.int .i64 t) := by go_simp
    have c3_1 : ((w1.alloc (.cells #[.int .i64 a, .int .i64 f, .int .i64 t, .int .i64 d] 25))).cell? ⟨w1.heap.size, 3, none⟩ = some (.int .i64 d) := by go_simp
    generalize (w1.alloc (.cells #[.int .i64 a, .int .i64 f, .int .i64 t, .int .i64 d] 25)) = w1' at *
    refine (HI.out _ be1).mono ?_
    rintro e w2 ⟨rfl, hb2⟩
    have e0 := Lib.cell?_alloc_some (.cells #[.int .i64 a, .int .i64 f, .int .i64 t, .int .i64 d] 25) (cell_later hb2 c0_1)
    have e1 := Lib.cell?_alloc_some (.cells #[.int .i64 a, .int .i64 f, .int .i64 t, .int .i64 d] 25) (cell_later hb2 c1_1)
    have e2 := Lib.cell?_alloc_some (.cells #[.int .i64 a, .int .i64 f, .int .i64 t, .int .i64 d] 25) (cell_later hb2 c2_1)
    have e3 := Lib.cell?_alloc_some (.cells #[.int .i64 a, .int .i64 f, .int .i64 t, .int .i64 d] 25) (cell_later hb2 c3_1)
    have be2 : Below w.heap.size w w2 := be1.trans (hb2.mono be1.size)
    have be3 : Below w.heap.size w (w2.alloc (.cells #[.int .i64 a, .int .i64 f, .int .i64 t, .int .i64 d] 25)) := be2.alloc be2.size _
    have g0 : ((w2.alloc (.cells #[.int .i64 a, .int .i64 f, .int .i64 t, .int .i64 d] 25))).cell? ⟨w2.heap.size, 0, none⟩ = some (.int .i64 a) := by go_simp
    have g1 : ((w2.alloc (.cells #[.int .i64 a, .int .i64 f, .int .i64 t, .int .i64 d] 25))).cell? ⟨w2.heap.size, 1, none⟩ = some (.int .i64 f) := by go_simp
    have g2 : ((w2.alloc (.cells #[.int .i64 a, .int .i64 f, .int .i64 t, .int .i64 d] 25))).cell? ⟨w2.heap.size, 2, none⟩ = some (.int .i64 t) := by go_simp
    have g3 : ((w2.alloc (.cells #[.int .i64 a, .int .i64 f, .int .i64 t, .int .i64 d] 25))).cell? ⟨w2.heap.size, 3, none⟩ = some (.int .i64 d) := by go_simp
    go_wp2_with fail
    refine (HE.out _).mono ?_
    rintro e w4 ⟨rfl, hb4⟩
    have be4 := be3.trans (hb4.mono be3.size)
    cases v <;> (go_wp2_with fail; go_ret; exact ⟨rfl, be4⟩)
  · have hs' : (1048576 : Int) < (s.size : Int) := by omega
    go_enter Tryd.func6, Tryd.ntmps6
    go_wp2_with fail
    go_ret
    exact ⟨rfl, by go_grown⟩
end Go.Proofs.YtemidjejelmdlaaDoor
