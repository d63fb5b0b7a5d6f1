/- A name and a list of numbers as text, by the program. Conditions: the table of powers lies in memory; the facts on memory and on lengths that each theorem names. -/
import Derived.Test.YtemidjejelmdlaaDoorTxD
import Derived.Test.YtemidjejelmdlaaDoorName
namespace Go.Proofs.YtemidjejelmdlaaDoor
open Go.RowKit
open Pl
theorem listT_len {xs : List Int} (h : Fits xs) (hl : xs.length ≤ 64) : (listT xs).length ≤ 2000 := by
  unfold listT
  split
  · simp
  · have := joinUp_len xs h xs.length (Nat.le_refl _)
    omega
theorem textT_len {xs : List Int} (h : Fits xs) : (textT xs).length ≤ 2000 := by
  unfold textT
  split
  · rename_i ho
    unfold okT at ho
    rw [Bool.and_eq_true] at ho
    have := of_decide_eq_true ho.1
    exact listT_len h (by omega)
  · simp
theorem name_size {s : ByteArray} (h : nameB s = true) : s.size ≤ 10 := by
  have := nameB_iff.1 h
  unfold IsNm at this
  omega
set_option maxHeartbeats 800000 in
theorem withId_any (s : ByteArray) (A : Option Addr) (c : Nat) (xs : List Int) (B : Nat) (w : World) (hs : s.size ≤ 1048576) (hn : (xs.length : Int) ≤ 1048576) (hI : Ints B w A xs) (hB : B ≤ w.heap.size) (hT : Fits xs) (hTab : Tab w) :
    Calls Tryd.prog 36 #[.string s, .slice A xs.length c] w fun e w' => e = .returned (.string (s ++ ⟨#[32]⟩ ++ ⟨(textT xs).toArray⟩)) ∧ Below w.heap.size w w' := by
  have hll := textT_len hT
  have HL := Lib.hid (ListText_any A c xs B w hn hI hB hT hTab)
  generalize textT xs = L at *
  have hv1 : ¬ (9223372036854775807 < s.size + 1) := by omega
  have hv2 : ¬ (9223372036854775807 < s.size + 1 + (⟨L.toArray⟩ : ByteArray).size) := by rw [mk_size L]; omega
  clear hI hT hTab hll
  go_enter Tryd.func36, Tryd.ntmps36
  go_wp2_with fail
  refine HL.out.mono ?_
  rintro e w2 ⟨rfl, hb2⟩
  go_wp2_with fail
  go_ret
  exact ⟨rfl, hb2⟩
end Go.Proofs.YtemidjejelmdlaaDoor
