/- A list read back from its text, plainly: what the reference takes, what the program takes, and that they are one. No program in sight. No conditions but those that each theorem names. -/
import Derived.Test.YtemidjejelmdlaaDoorRdP
namespace Go.Proofs.YtemidjejelmdlaaDoor
open Pl
def partOk (p : List UInt8) : Bool := numB p && inB (numV p) (-1000000000000) 1000000000000
/-- A text of a list; the list. -/
def readB (l : List UInt8) : Bool := (l == [45]) || (decide ((spl 44 l).length ≤ 64) && (spl 44 l).all partOk)
def readV (l : List UInt8) : List Int := if l == [45] then [] else (spl 44 l).map numV
def readL (l : List UInt8) : List Int := if readB l then readV l else []
theorem readB_dash : readB [45] = true := by unfold readB; simp
theorem readV_dash : readV [45] = [] := by unfold readV; simp
theorem readL_yes {l : List UInt8} (h : readB l = true) : readL l = readV l := by unfold readL; rw [h]; rfl
theorem readL_no {l : List UInt8} (h : readB l = false) : readL l = [] := by unfold readL; rw [h]; rfl
theorem spl_ne (c : UInt8) (l : List UInt8) : spl c l ≠ [] := by unfold spl; simp
theorem join_back {ps : List (List UInt8)} (h : ∀ p ∈ ps, numB p = true) : (ps.map numV).map Lib.itoa = ps := by
  induction ps with
  | nil => rfl
  | cons p ps ih =>
    rw [List.map_cons, List.map_cons, ih (fun q hq => h q (by simp [hq])), (numB_itoa (h p (by simp))).1]
theorem listT_join {xs : List Int} (h : xs ≠ []) : listT xs = Lib.join (xs.map Lib.itoa) [44] := by
  unfold listT
  rw [if_neg (by intro e; exact h (List.eq_nil_of_length_eq_zero e)), joinUp_eq xs _ (Nat.le_refl _), List.take_length]
theorem spl_text {l : List UInt8} (h : ∀ p ∈ spl 44 l, numB p = true) : listT ((spl 44 l).map numV) = l := by
  rw [listT_join (by simp [spl]), join_back h]
  unfold spl
  rw [Lib.join_cons]
  exact spl_join 44 l
theorem okT_iff {xs : List Int} : okT xs = true ↔ xs.length ≤ 64 ∧ ∀ x ∈ xs, -1000000000000 ≤ x ∧ x ≤ 1000000000000 := by
  unfold okT
  rw [Bool.and_eq_true, decide_eq_true_iff, allIn_iff]
  constructor
  · rintro ⟨a, b⟩; exact ⟨by omega, b⟩
  · rintro ⟨a, b⟩; exact ⟨by omega, b⟩
/-- What holds of a text that is read. -/
theorem readB_text {l : List UInt8} (h : readB l = true) : listT (readV l) = l ∧ okT (readV l) = true := by
  by_cases hd : l = [45]
  · subst hd
    rw [readV_dash]
    exact ⟨rfl, rfl⟩
  · have hd' : (l == [45]) = false := by rw [beq_eq_false_iff_ne]; exact hd
    unfold readB at h
    unfold readV
    rw [hd'] at h ⊢
    simp only [Bool.false_or, Bool.and_eq_true, decide_eq_true_iff, List.all_eq_true] at h
    obtain ⟨h1, h2⟩ := h
    have hn : ∀ p ∈ spl 44 l, numB p = true := fun p hp => by have := h2 p hp; unfold partOk at this; rw [Bool.and_eq_true] at this; exact this.1
    refine ⟨spl_text hn, okT_iff.2 ⟨by simpa using h1, fun x hx => ?_⟩⟩
    have hx : x ∈ (spl 44 l).map numV := hx
    obtain ⟨p, hp, rfl⟩ := List.mem_map.1 hx
    have := h2 p hp
    unfold partOk at this
    rw [Bool.and_eq_true] at this
    exact inB_iff.1 this.2
theorem readB_ne {l : List UInt8} (h : readB l = true) : l ≠ [] := by
  intro e
  subst e
  revert h
  unfold readB spl spH spT
  simp [partOk, numB, dgs, neg]
theorem readV_bd {l : List UInt8} (h : readB l = true) : ∀ x ∈ readV l, -1000000000000 ≤ x ∧ x ≤ 1000000000000 := (okT_iff.1 (readB_text h).2).2
/-- The parts that the program divides a text into. -/
def prt (l : List UInt8) : List (List UInt8) := Lib.splitK [44] 0 (min 65 (l.length + 1) - 1) l
theorem prt_ne (l : List UInt8) : prt l ≠ [] := by
  unfold prt
  cases hk : min 65 (l.length + 1) - 1 with
  | zero => simp [Lib.splitK]
  | succ k => unfold Lib.splitK; split <;> simp
/-- THE PROGRAM's TEST IS THE REFERENCE's. -/
theorem impl_read {l : List UInt8} (hd : l ≠ [45]) : ((prt l).all numB && decide (textT ((prt l).map numV) = l)) = readB l ∧ (readB l = true → (prt l).map numV = readV l) := by
  have hd' : (l == [45]) = false := by rw [beq_eq_false_iff_ne]; exact hd
  have hT := spT_len 44 l
  by_cases hf : (spl 44 l).length ≤ 64
  · have hp : prt l = spl 44 l := by
      unfold prt
      refine splitK_few _ _ ?_
      unfold spl at hf
      rw [List.length_cons] at hf
      omega
    rw [hp]
    have hR : readB l = (spl 44 l).all partOk := by unfold readB; rw [hd', decide_eq_true hf]; simp
    have hV : readV l = (spl 44 l).map numV := by unfold readV; rw [hd']; rfl
    refine ⟨?_, fun _ => hV.symm⟩
    rw [hR, Bool.eq_iff_iff, Bool.and_eq_true, List.all_eq_true, List.all_eq_true, decide_eq_true_iff]
    constructor
    · rintro ⟨h1, h2⟩ p hp'
      have hne : l ≠ [] := by
        intro e
        subst e
        have := h1 [] (by unfold spl spH; simp)
        simp [numB, dgs, neg] at this
      have ho : okT ((spl 44 l).map numV) = true := by
        cases ho : okT ((spl 44 l).map numV)
        · unfold textT at h2; rw [ho] at h2; exact absurd h2.symm hne
        · rfl
      unfold partOk
      rw [h1 p hp', inB_iff.2 ((okT_iff.1 ho).2 _ (List.mem_map.2 ⟨p, hp', rfl⟩))]
      rfl
    · intro h
      have h1 : ∀ p ∈ spl 44 l, numB p = true := fun p hp' => by have := h p hp'; unfold partOk at this; rw [Bool.and_eq_true] at this; exact this.1
      refine ⟨h1, ?_⟩
      have ho : okT ((spl 44 l).map numV) = true := okT_iff.2 ⟨by simpa using hf, fun x hx => by
        obtain ⟨p, hp', rfl⟩ := List.mem_map.1 hx
        have := h p hp'
        unfold partOk at this
        rw [Bool.and_eq_true] at this
        exact inB_iff.1 this.2⟩
      unfold textT
      rw [ho, if_pos rfl]
      exact spl_text h1
  · have hR : readB l = false := by unfold readB; rw [hd', decide_eq_false hf]; rfl
    rw [hR]
    refine ⟨?_, fun h => by cases h⟩
    have hlen : 64 ≤ (spT 44 l).length := by unfold spl at hf; rw [List.length_cons] at hf; omega
    have hk : min 65 (l.length + 1) - 1 = 64 := by omega
    by_cases h65 : (spT 44 l).length ≤ 64
    · have hp : prt l = spl 44 l := by unfold prt; rw [hk]; exact splitK_few _ _ h65
      rw [hp]
      rw [Bool.and_eq_false_iff]
      by_cases ha : (spl 44 l).all numB = true
      · right
        refine decide_eq_false (fun h2 => ?_)
        have ho : okT ((spl 44 l).map numV) = false := by
          cases ho : okT ((spl 44 l).map numV)
          · rfl
          · have := (okT_iff.1 ho).1
            rw [List.length_map] at this
            exact absurd this hf
        unfold textT at h2
        rw [ho] at h2
        have h2 : ([] : List UInt8) = l := h2
        rw [← h2] at hlen
        simp [spT] at hlen
      · left; exact Bool.eq_false_iff.2 ha
    · obtain ⟨pre, last, e1, e2, _⟩ := splitK_many (c := 44) 64 l (by omega)
      have hp : prt l = pre ++ [last] := by unfold prt; rw [hk]; exact e1
      rw [hp, Bool.and_eq_false_iff]
      left
      rw [Bool.eq_false_iff]
      intro h
      have hn := List.all_eq_true.1 h last (by simp)
      obtain ⟨_, _, _, h4⟩ := numB_parts hn
      have hm : (44 : UInt8) ∈ dgs last := by
        unfold dgs
        split
        · rename_i hng
          cases last with
          | nil => simp at e2
          | cons x r =>
            have hx : x = 45 := by unfold neg at hng; have h := eq_of_beq hng; exact Option.some.inj h
            subst hx
            rcases List.mem_cons.1 e2 with e | e
            · exact absurd e (by decide)
            · exact e
        · exact e2
      have := isD_iff.1 (h4 44 hm)
      have h44 : (44 : UInt8).toNat = 44 := rfl
      omega
end Go.Proofs.YtemidjejelmdlaaDoor
