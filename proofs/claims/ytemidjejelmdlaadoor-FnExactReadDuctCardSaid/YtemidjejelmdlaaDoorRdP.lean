/- Decimal text read back, plainly: a text divided at a byte; the number with a decimal form; a list with a text. No program in sight. No conditions but those that each theorem names. -/
import Derived.Test.YtemidjejelmdlaaDoorTxP
import Derived.Lib.Split
import Derived.Lib.ParseIntB
namespace Go.Proofs.YtemidjejelmdlaaDoor
open Pl
/-- The first part of a text that is divided at each byte c; the other parts; all parts. -/
def spH (c : UInt8) : List UInt8 → List UInt8 | [] => [] | b :: r => if b = c then [] else b :: spH c r
def spT (c : UInt8) : List UInt8 → List (List UInt8) | [] => [] | b :: r => if b = c then spH c r :: spT c r else spT c r
def spl (c : UInt8) (l : List UInt8) : List (List UInt8) := spH c l :: spT c l
theorem spl_join (c : UInt8) : ∀ l : List UInt8, spH c l ++ Lib.joinTail [c] (spT c l) = l
  | [] => rfl
  | b :: r => by
    have ih := spl_join c r
    unfold spH spT
    by_cases h : b = c
    · subst h
      rw [if_pos rfl, if_pos rfl]
      show [] ++ (([b] ++ spH b r) ++ Lib.joinTail [b] (spT b r)) = b :: r
      simp only [List.nil_append, List.cons_append]
      rw [ih]
    · rw [if_neg h, if_neg h, List.cons_append, ih]
theorem spH_no {c : UInt8} : ∀ {l : List UInt8}, c ∉ spH c l
  | [] => by simp [spH]
  | b :: r => by
    unfold spH
    by_cases h : b = c
    · rw [if_pos h]; simp
    · rw [if_neg h]
      simp only [List.mem_cons, not_or]
      exact ⟨fun e => h e.symm, spH_no⟩
theorem spT_mem {c : UInt8} : ∀ {l : List UInt8}, spT c l ≠ [] → c ∈ l
  | [], h => absurd rfl h
  | b :: r, h => by
    by_cases e : b = c
    · subst e; simp
    · unfold spT at h
      rw [if_neg e] at h
      exact List.mem_cons_of_mem _ (spT_mem h)
theorem spT_nil {c : UInt8} : ∀ {l : List UInt8}, c ∉ l → spT c l = [] ∧ spH c l = l
  | [], _ => ⟨rfl, rfl⟩
  | b :: r, h => by
    simp only [List.mem_cons, not_or] at h
    have e : ¬ b = c := fun e => h.1 e.symm
    obtain ⟨a, d⟩ := spT_nil h.2
    unfold spT spH
    rw [if_neg e, if_neg e, a, d]
    exact ⟨rfl, rfl⟩
theorem spT_len (c : UInt8) : ∀ l : List UInt8, (spT c l).length ≤ l.length
  | [] => Nat.le_refl _
  | b :: r => by
    have := spT_len c r
    unfold spT
    split
    · simp; omega
    · simp; omega
theorem index_one {c : UInt8} : ∀ l : List UInt8, (Lib.index l [c] = -1 ∧ spT c l = [] ∧ spH c l = l) ∨ ∃ i : Nat, Lib.index l [c] = i ∧ spH c l = l.take i ∧ spT c l = spl c (l.drop (i + 1))
  | [] => .inl ⟨rfl, rfl, rfl⟩
  | b :: r => by
    unfold Lib.index
    by_cases h : b = c
    · subst h
      rw [if_pos (by simp [List.isPrefixOf])]
      refine .inr ⟨0, rfl, ?_, ?_⟩
      · unfold spH; rw [if_pos rfl]; rfl
      · conv => lhs; unfold spT
        rw [if_pos rfl]; rfl
    · have h' : ¬ ([c].isPrefixOf (b :: r) = true) := by simp [List.isPrefixOf]; exact fun e => h e.symm
      rw [if_neg h']
      rcases index_one r with ⟨h1, h2, h3⟩ | ⟨i, h1, h2, h3⟩
      · rw [h1]
        refine .inl ⟨rfl, ?_, ?_⟩
        · unfold spT; rw [if_neg h, h2]
        · unfold spH; rw [if_neg h, h3]
      · rw [h1, if_neg (by simp <;> omega)]
        refine .inr ⟨i + 1, rfl, ?_, ?_⟩
        · unfold spH; rw [if_neg h, h2]; rfl
        · conv => lhs; unfold spT
          rw [if_neg h, h3]; rfl
theorem splitK_few {c : UInt8} : ∀ (k : Nat) (l : List UInt8), (spT c l).length ≤ k → Lib.splitK [c] 0 k l = spl c l
  | 0, l, h => by
    have h0 := List.eq_nil_of_length_eq_zero (Nat.le_zero.1 h)
    have hj := spl_join c l
    rw [h0] at hj
    have hj : spH c l ++ [] = l := hj
    rw [List.append_nil] at hj
    unfold Lib.splitK spl
    rw [h0, hj]
  | k + 1, l, h => by
    unfold Lib.splitK
    rcases index_one (c := c) l with ⟨h1, h2, h3⟩ | ⟨i, h1, h2, h3⟩
    · rw [h1, if_pos (by rfl)]
      unfold spl
      rw [h2, h3]
    · rw [h1, if_neg (by simp <;> omega)]
      rw [h3] at h
      have ih := splitK_few k (l.drop (i + 1)) (by unfold spl at h; simp at h; omega)
      rw [show ((i : Int).toNat + 0) = i by omega, show (i : Int).toNat + [c].length = i + 1 by simp, ih]
      conv => rhs; unfold spl
      rw [h2, h3]
theorem splitK_many {c : UInt8} : ∀ (k : Nat) (l : List UInt8), k < (spT c l).length → ∃ pre last, Lib.splitK [c] 0 k l = pre ++ [last] ∧ c ∈ last ∧ pre.length = k
  | 0, l, h => ⟨[], l, rfl, spT_mem (fun e => by rw [e] at h; simp at h), rfl⟩
  | k + 1, l, h => by
    unfold Lib.splitK
    rcases index_one (c := c) l with ⟨h1, h2, h3⟩ | ⟨i, h1, h2, h3⟩
    · rw [h2] at h; simp at h
    · rw [h1, if_neg (by simp <;> omega)]
      rw [h3] at h
      obtain ⟨pre, last, e1, e2, e3⟩ := splitK_many k (l.drop (i + 1)) (by unfold spl at h; simp at h; omega)
      rw [show ((i : Int).toNat + 0) = i by omega, show (i : Int).toNat + [c].length = i + 1 by simp, e1]
      exact ⟨l.take i :: pre, last, rfl, e2, by simp [e3]⟩
/-! ### A number -/
def isD (b : UInt8) : Bool := decide (48 ≤ b.toNat) && decide (b.toNat ≤ 57)
theorem isD_iff {b : UInt8} : isD b = true ↔ 48 ≤ b.toNat ∧ b.toNat ≤ 57 := by unfold isD; simp
def valD : Nat → List UInt8 → Nat | acc, [] => acc | acc, b :: r => valD (10 * acc + (b.toNat - 48)) r
theorem valD_snoc : ∀ (l : List UInt8) (acc : Nat) (b : UInt8), valD acc (l ++ [b]) = 10 * valD acc l + (b.toNat - 48)
  | [], _, _ => rfl
  | c :: r, acc, b => valD_snoc r (10 * acc + (c.toNat - 48)) b
theorem pow_step {a b c : Nat} (h : a + 1 ≤ (b + 1) * 10) : (a + 1) * c ≤ (b + 1) * (10 * c) := by
  have := Nat.mul_le_mul_right c h
  rwa [Nat.mul_assoc] at this
theorem valD_lt (l : List UInt8) : ∀ acc : Nat, (∀ b ∈ l, isD b = true) → valD acc l < (acc + 1) * 10 ^ l.length := by
  induction l with
  | nil =>
    intro acc _
    show acc < (acc + 1) * 1
    omega
  | cons b r ih =>
    intro acc h
    have hb := isD_iff.1 (h b (by simp))
    have ih' := ih (10 * acc + (b.toNat - 48)) (fun x hx => h x (by simp [hx]))
    have h2 := pow_step (a := 10 * acc + (b.toNat - 48)) (b := acc) (c := 10 ^ r.length) (by omega)
    show valD (10 * acc + (b.toNat - 48)) r < (acc + 1) * 10 ^ (r.length + 1)
    rw [Nat.pow_succ']
    exact Nat.lt_of_lt_of_le ih' h2
theorem valD_ge : ∀ (l : List UInt8) (acc : Nat), acc ≤ valD acc l
  | [], _ => Nat.le_refl _
  | b :: r, acc => by have := valD_ge r (10 * acc + (b.toNat - 48)); unfold valD; omega
theorem ofNat_digit {k : Nat} (h : k < 10) : (UInt8.ofNat (48 + k)).toNat = 48 + k := by rw [UInt8.toNat_ofNat']; omega
theorem dec_spec : ∀ u : Nat, valD 0 (Lib.decDigits u) = u ∧ (∀ b ∈ Lib.decDigits u, isD b = true) ∧ 0 < (Lib.decDigits u).length ∧ (1 ≤ u → (Lib.decDigits u).head? ≠ some 48) := by
  intro u
  induction u using Nat.strongRecOn with
  | _ u ih =>
    by_cases h10 : u < 10
    · rw [Lib.decDigits_one h10]
      have hd := ofNat_digit h10
      refine ⟨?_, ?_, by simp, ?_⟩
      · unfold valD valD; rw [hd]; omega
      · intro b hb
        rw [List.mem_singleton] at hb
        subst hb
        exact isD_iff.2 (by rw [hd]; omega)
      · intro h1 e
        have e : some (UInt8.ofNat (48 + u)) = some 48 := e
        injection e with e
        rw [e] at hd
        have : (48 : UInt8).toNat = 48 := rfl
        omega
    · obtain ⟨i1, i2, i3, i4⟩ := ih (u / 10) (by omega)
      have hd := ofNat_digit (k := u % 10) (by omega)
      rw [Lib.decDigits, dif_neg h10]
      refine ⟨?_, ?_, by simp, ?_⟩
      · rw [valD_snoc, i1, hd]; omega
      · intro b hb
        rcases List.mem_append.1 hb with hb | hb
        · exact i2 b hb
        · rw [List.mem_singleton] at hb
          subst hb
          exact isD_iff.2 (by rw [hd]; omega)
      · intro _
        have h4 := i4 (by omega)
        cases hl : Lib.decDigits (u / 10) with
        | nil => rw [hl] at i3; simp at i3
        | cons x xs => rw [hl] at h4; exact h4
theorem dec_back : ∀ (l : List UInt8), 0 < l.length → (∀ b ∈ l, isD b = true) → (l.head? ≠ some 48 ∨ l.length = 1) → Lib.decDigits (valD 0 l) = l := by
  intro l
  obtain ⟨m, hm⟩ : ∃ m, m = l.length := ⟨_, rfl⟩
  induction m generalizing l with
  | zero => intro h; omega
  | succ m ih0 =>
    intro _ hd hh
    obtain ⟨l, b, rfl⟩ : ∃ l' b, l = l' ++ [b] := ⟨l.dropLast, l.getLast (by intro e; subst e; simp at hm), (List.dropLast_concat_getLast _).symm⟩
    have ih := ih0 l (by simp at hm; omega)
    have hb := isD_iff.1 (hd b (by simp))
    rw [valD_snoc]
    cases l with
    | nil =>
      show Lib.decDigits (10 * 0 + (b.toNat - 48)) = [b]
      rw [Lib.decDigits_one (by omega), show 48 + (10 * 0 + (b.toNat - 48)) = b.toNat by omega]
      simp
    | cons x xs =>
      have hx : (x :: xs).head? ≠ some 48 := by
        rcases hh with h | h
        · exact h
        · simp at h
      have ih' := ih (by simp) (fun y hy => hd y (List.mem_append_left _ hy)) (.inl hx)
      have hx0 := isD_iff.1 (hd x (by simp))
      have hpos : 1 ≤ valD 0 (x :: xs) := by
        have h1 : 48 < x.toNat := by
          rcases Nat.lt_or_ge 48 x.toNat with h | h
          · exact h
          · exfalso
            apply hx
            show some x = some 48
            rw [show x = 48 from UInt8.toNat_inj.1 (by show x.toNat = 48; omega)]
        have := valD_ge xs (10 * 0 + (x.toNat - 48))
        show 1 ≤ valD (10 * 0 + (x.toNat - 48)) xs
        omega
      rw [Lib.decDigits, dif_neg (by omega), show (10 * valD 0 (x :: xs) + (b.toNat - 48)) / 10 = valD 0 (x :: xs) by omega, ih', show 48 + (10 * valD 0 (x :: xs) + (b.toNat - 48)) % 10 = b.toNat by omega]
      simp
theorem parseM_ok : ∀ (l : List UInt8) (acc : Nat), (∀ b ∈ l, isD b = true) → valD acc l ≤ 18446744073709551615 → Lib.parseUintM 18446744073709551615 acc l = .ok (valD acc l)
  | [], acc, _, _ => rfl
  | b :: r, acc, h, hv => by
    have hb := isD_iff.1 (h b (by simp))
    have hv : valD (10 * acc + (b.toNat - 48)) r ≤ 18446744073709551615 := hv
    have hg := valD_ge r (10 * acc + (b.toNat - 48))
    have ih := parseM_ok r (10 * acc + (b.toNat - 48)) (fun x hx => h x (by simp [hx])) hv
    unfold Lib.parseUintM
    rw [if_pos hb, if_neg (by omega), if_neg (by omega), show acc * 10 + (b.toNat - 48) = 10 * acc + (b.toNat - 48) by omega, ih]
    rfl
def neg (l : List UInt8) : Bool := l.head? == some 45
def dgs (l : List UInt8) : List UInt8 := if neg l then l.drop 1 else l
def numB (l : List UInt8) : Bool := decide ((dgs l).length ≠ 0) && (decide ((dgs l).length ≤ 18) && (!(((dgs l).head? == some 48) && decide (1 < l.length)) && (dgs l).all isD))
def numV (l : List UInt8) : Int := if neg l then -(valD 0 (dgs l) : Int) else valD 0 (dgs l)
/-- The number with a decimal form. -/
def num (l : List UInt8) : Option Int := if numB l then some (numV l) else none
theorem numB_parts {l : List UInt8} (h : numB l = true) : 0 < (dgs l).length ∧ (dgs l).length ≤ 18 ∧ ((dgs l).head? ≠ some 48 ∨ l.length = 1) ∧ ∀ b ∈ dgs l, isD b = true := by
  unfold numB at h
  simp only [Bool.and_eq_true, decide_eq_true_eq, Bool.not_eq_true', Bool.and_eq_false_iff, decide_eq_false_iff_not, List.all_eq_true] at h
  obtain ⟨h1, h2, h3, h4⟩ := h
  refine ⟨by omega, h2, ?_, h4⟩
  rcases h3 with h3 | h3
  · exact .inl (fun e => by rw [e] at h3; simp at h3)
  · right
    have : (dgs l).length ≤ l.length := by unfold dgs; split <;> simp
    omega
theorem num_val {l : List UInt8} (h : numB l = true) : valD 0 (dgs l) < 1000000000000000000 := by
  obtain ⟨_, h2, _, h4⟩ := numB_parts h
  have := valD_lt (dgs l) 0 h4
  have h5 : 10 ^ (dgs l).length ≤ 10 ^ 18 := Nat.pow_le_pow_right (by decide) h2
  omega
theorem numB_itoa {l : List UInt8} (h : numB l = true) : Lib.itoa (numV l) = l ∧ Lib.parseIntB 64 l = .ok (numV l) ∧ (Lib.trimPrefix l [45]).length ≤ 18 := by
  obtain ⟨h1, h2, h3, h4⟩ := numB_parts h
  have hv := num_val h
  cases l with
  | nil => exfalso; unfold dgs neg at h1; simp at h1
  | cons c r =>
    by_cases hc : c = 45
    · subst hc
      have hn : neg (45 :: r) = true := rfl
      have hdg : dgs (45 :: r) = r := by unfold dgs; rw [hn]; rfl
      rw [hdg] at h1 h2 h3 h4 hv
      have h3' : r.head? ≠ some 48 := by
        rcases h3 with h | h
        · exact h
        · exfalso; simp at h; subst h; simp at h1
      have hb := dec_back r h1 h4 (.inl h3')
      have hpos : 1 ≤ valD 0 r := by
        rcases Nat.eq_zero_or_pos (valD 0 r) with h | h
        · exfalso
          rw [h, Lib.decDigits_one (by decide)] at hb
          rw [← hb] at h3'
          exact h3' rfl
        · exact h
      unfold numV
      rw [hn, hdg, if_pos rfl]
      refine ⟨?_, ?_, ?_⟩
      · unfold Lib.itoa
        rw [if_pos (by omega), show (-(valD 0 r : Int)).natAbs = valD 0 r by omega, hb]
      · unfold Lib.parseIntB
        simp only []
        rw [if_pos (by right; rfl)]
        unfold Lib.parseUintB
        rw [if_neg (by intro e; subst e; simp at h1)]
        have := parseM_ok r 0 h4 (by omega)
        rw [show 2 ^ 64 - 1 = 18446744073709551615 from rfl, this]
        simp only []
        rw [if_neg (by intro hh; exact hh.1 rfl), if_neg (by intro hh; have := hh.2; omega), if_pos (show UInt8.toNat 45 = 45 from rfl)]
      · show (if Lib.hasPrefix (45 :: r) [45] then (45 :: r).drop 1 else 45 :: r).length ≤ 18
        rw [if_pos (by simp [Lib.hasPrefix, List.isPrefixOf])]
        exact h2
    · have hn : neg (c :: r) = false := by unfold neg; simp [hc]
      have hdg : dgs (c :: r) = c :: r := by unfold dgs; rw [hn]; rfl
      rw [hdg] at h1 h2 h3 h4 hv
      have hb := dec_back (c :: r) h1 h4 h3
      have hcd := isD_iff.1 (h4 c (by simp))
      unfold numV
      rw [hn, hdg, if_neg (by simp)]
      refine ⟨?_, ?_, ?_⟩
      · unfold Lib.itoa
        rw [if_neg (by omega), Int.toNat_natCast, hb]
      · unfold Lib.parseIntB
        simp only []
        rw [if_neg (by omega)]
        unfold Lib.parseUintB
        rw [if_neg (by simp)]
        have := parseM_ok (c :: r) 0 h4 (by omega)
        rw [show 2 ^ 64 - 1 = 18446744073709551615 from rfl, this]
        simp only []
        rw [if_neg (by intro hh; have := hh.2; omega), if_neg (by intro hh; have := hh.1; omega), if_neg (by omega)]
      · show (if Lib.hasPrefix (c :: r) [45] then (c :: r).drop 1 else c :: r).length ≤ 18
        rw [if_neg (by simp [Lib.hasPrefix, List.isPrefixOf]; exact fun e => hc e.symm)]
        exact h2
theorem itoa_numB {l : List UInt8} {n : Int} (h : Lib.itoa n = l) (ht : (Lib.trimPrefix l [45]).length ≤ 18) : numB l = true ∧ numV l = n := by
  subst h
  unfold Lib.itoa at ht ⊢
  by_cases hn : n < 0
  · rw [if_pos hn] at ht ⊢
    obtain ⟨d1, d2, d3, d4⟩ := dec_spec n.natAbs
    have hng : neg (45 :: Lib.decDigits n.natAbs) = true := rfl
    have hdg : dgs (45 :: Lib.decDigits n.natAbs) = Lib.decDigits n.natAbs := by unfold dgs; rw [hng]; rfl
    have ht : (if Lib.hasPrefix (45 :: Lib.decDigits n.natAbs) [45] then (45 :: Lib.decDigits n.natAbs).drop 1 else 45 :: Lib.decDigits n.natAbs).length ≤ 18 := ht
    rw [if_pos (by simp [Lib.hasPrefix, List.isPrefixOf])] at ht
    have ht : (Lib.decDigits n.natAbs).length ≤ 18 := ht
    refine ⟨?_, ?_⟩
    · unfold numB
      rw [hdg]
      have h4 := d4 (by omega)
      simp only [Bool.and_eq_true, decide_eq_true_eq, Bool.not_eq_true', Bool.and_eq_false_iff, List.all_eq_true]
      refine ⟨by omega, ht, .inl ?_, d2⟩
      rw [beq_eq_false_iff_ne]; exact h4
    · unfold numV
      rw [hng, hdg, if_pos rfl, d1]; omega
  · rw [if_neg hn] at ht ⊢
    obtain ⟨d1, d2, d3, d4⟩ := dec_spec n.toNat
    cases hl : Lib.decDigits n.toNat with
    | nil => rw [hl] at d3; simp at d3
    | cons c r =>
      rw [hl] at d1 d2 d3 d4 ht
      have hcd := isD_iff.1 (d2 c (by simp))
      have hc : ¬ c = 45 := fun e => by subst e; have : (45 : UInt8).toNat = 45 := rfl; omega
      have hng : neg (c :: r) = false := by unfold neg; simp [hc]
      have hdg : dgs (c :: r) = c :: r := by unfold dgs; rw [hng]; rfl
      have ht : (if Lib.hasPrefix (c :: r) [45] then (c :: r).drop 1 else c :: r).length ≤ 18 := ht
      rw [if_neg (by simp [Lib.hasPrefix, List.isPrefixOf]; exact fun e => hc e.symm)] at ht
      refine ⟨?_, ?_⟩
      · unfold numB
        rw [hdg]
        simp only [Bool.and_eq_true, decide_eq_true_eq, Bool.not_eq_true', Bool.and_eq_false_iff, List.all_eq_true]
        refine ⟨by simp, ht, ?_, d2⟩
        by_cases h1 : 1 ≤ n.toNat
        · left; rw [beq_eq_false_iff_ne]; exact d4 h1
        · right
          have : n.toNat = 0 := by omega
          rw [this, Lib.decDigits_one (by decide)] at hl
          injection hl with _ hr
          subst hr
          simp
      · unfold numV
        rw [hng, hdg, if_neg (by simp), d1]; omega
end Go.Proofs.YtemidjejelmdlaaDoor
