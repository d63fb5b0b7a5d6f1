/- Plain arithmetic of the planner, with no program in sight: the test of a range, the nearest quotient, the quotient rounded up. No conditions beyond those that each lemma names. -/
import Derived.RowKit
namespace Go.Proofs.Ytlgagnbnjfneaaa.Pl

/-- A number from low to high. -/
def inB (n lo hi : Int) : Bool := decide (n ≥ lo ∧ n ≤ hi)
theorem inB_iff {n lo hi : Int} : inB n lo hi = true ↔ lo ≤ n ∧ n ≤ hi := by unfold inB; simp
theorem inB_no {n lo hi : Int} : inB n lo hi = false ↔ ¬ (lo ≤ n ∧ n ≤ hi) := by unfold inB; simp
theorem inB_mk {n lo hi : Int} (h : lo ≤ n ∧ n ≤ hi) : inB n lo hi = true := inB_iff.2 h

/-- The nearest quotient by a positive number, halves away from 0. -/
def divR (a b : Int) : Int := if a < 0 then -((b - 2 * a) / (2 * b)) else (2 * a + b) / (2 * b)
/-- The quotient by a positive number, rounded up. -/
def divU (a b : Int) : Int := (a + b - 1) / b

theorem div_two (q r b : Int) (hb : 0 < b) (h0 : 0 ≤ r) (hr : r < b) : (2 * (b * q + r) + b) / (2 * b) = if b - r ≤ r then q + 1 else q := by
  have e : 2 * (b * q + r) + b = (2 * r + b) + (2 * b) * q := by rw [Int.mul_add, Int.mul_assoc]; omega
  rw [e, Int.add_mul_ediv_left _ _ (by omega)]
  split
  · have : (2 * r + b) / (2 * b) = 1 := by
      apply Int.le_antisymm
      · have : (2 * r + b) / (2 * b) < 2 := Int.ediv_lt_of_lt_mul (by omega) (by omega)
        omega
      · exact (Int.le_ediv_iff_mul_le (by omega)).2 (by omega)
    omega
  · have : (2 * r + b) / (2 * b) = 0 := Int.ediv_eq_zero_of_lt (by omega) (by omega)
    omega

theorem divR_nonneg {a b : Int} (ha : 0 ≤ a) : divR a b = (2 * a + b) / (2 * b) := by unfold divR; rw [if_neg (by omega)]
theorem divR_neg {a b : Int} (ha : a < 0) : divR a b = -((b - 2 * a) / (2 * b)) := by unfold divR; rw [if_pos ha]
theorem divR_opp {a b : Int} (hb : 0 < b) : divR (-a) b = - divR a b := by
  rcases Int.lt_trichotomy a 0 with h | h | h
  · rw [divR_nonneg (by omega), divR_neg h, Int.neg_neg]
    congr 1; omega
  · subst h
    rw [Int.neg_zero, divR_nonneg (Int.le_refl _)]
    have : (2 * 0 + b) / (2 * b) = 0 := Int.ediv_eq_zero_of_lt (by omega) (by omega)
    omega
  · rw [divR_neg (by omega), divR_nonneg (by omega)]
    congr 2; omega
/-- How the program reckons it, from the quotient and the rest: at a number that is not negative. -/
theorem divR_of_rest {a b : Int} (hb : 0 < b) (ha : 0 ≤ a) : divR a b = if b - a % b ≤ a % b then a / b + 1 else a / b := by
  have h := div_two (a / b) (a % b) b hb (Int.emod_nonneg _ (by omega)) (Int.emod_lt_of_pos _ hb)
  rw [Int.mul_ediv_add_emod] at h
  rw [divR_nonneg ha, h]
theorem divR_mono {a a' b : Int} (hb : 0 < b) (h : a ≤ a') : divR a b ≤ divR a' b := by
  unfold divR
  split <;> split
  · have : (b - 2 * a') / (2 * b) ≤ (b - 2 * a) / (2 * b) := Int.ediv_le_ediv (by omega) (by omega)
    omega
  · have h1 : 0 ≤ (b - 2 * a) / (2 * b) := Int.ediv_nonneg (by omega) (by omega)
    have h2 : 0 ≤ (2 * a' + b) / (2 * b) := Int.ediv_nonneg (by omega) (by omega)
    omega
  · omega
  · exact Int.ediv_le_ediv (by omega) (by omega)
/-- Bounds: between the bounds of the number itself. -/
theorem divR_le {a b c : Int} (hb : 0 < b) (h : 2 * a < (2 * c + 1) * b) (hc : 0 ≤ c) : divR a b ≤ c := by
  unfold divR
  split
  · have h1 : 0 ≤ (b - 2 * a) / (2 * b) := Int.ediv_nonneg (by omega) (by omega)
    omega
  · have e : (2 * c + 1) * b = 2 * c * b + b := by rw [Int.add_mul, Int.one_mul]
    have e2 : (c + 1) * (2 * b) = 2 * c * b + 2 * b := by rw [Int.add_mul, Int.one_mul, ← Int.mul_assoc, Int.mul_comm c 2]
    have : (2 * a + b) / (2 * b) < c + 1 := Int.ediv_lt_of_lt_mul (by omega) (by rw [e2]; omega)
    omega
theorem le_divR {a b c : Int} (hb : 0 < b) (h : -((2 * c + 1) * b) < 2 * a) (hc : 0 ≤ c) : -c ≤ divR a b := by
  have h1 := divR_le (a := -a) hb (c := c) (by omega) hc
  rw [divR_opp hb] at h1
  omega
theorem divR_nonneg' {a b : Int} (hb : 0 < b) (ha : 0 ≤ a) : 0 ≤ divR a b := by
  rw [divR_nonneg ha]; exact Int.ediv_nonneg (by omega) (by omega)
theorem divR_nonpos {a b : Int} (hb : 0 < b) (ha : a ≤ 0) : divR a b ≤ 0 := by
  have := divR_nonneg' (a := -a) hb (by omega)
  rw [divR_opp hb] at this; omega

/-- The lesser, the greater of two numbers. -/
def mn (a b : Int) : Int := if a < b then a else b
def mx (a b : Int) : Int := if a > b then a else b
theorem mn_le_left (a b : Int) : mn a b ≤ a := by unfold mn; split <;> omega
theorem mn_le_right (a b : Int) : mn a b ≤ b := by unfold mn; split <;> omega
theorem mn_or (a b : Int) : mn a b = a ∨ mn a b = b := by unfold mn; split <;> simp
theorem mx_ge_left (a b : Int) : a ≤ mx a b := by unfold mx; split <;> omega
theorem mx_ge_right (a b : Int) : b ≤ mx a b := by unfold mx; split <;> omega
theorem mx_or (a b : Int) : mx a b = a ∨ mx a b = b := by unfold mx; split <;> simp
theorem mn_comm (a b : Int) : mn a b = mn b a := by unfold mn; split <;> split <;> omega
theorem mn_eq_left {a b : Int} (h : a ≤ b) : mn a b = a := by unfold mn; split <;> omega
theorem mn_eq_right {a b : Int} (h : b ≤ a) : mn a b = b := by unfold mn; split <;> omega
theorem mx_eq_left {a b : Int} (h : b ≤ a) : mx a b = a := by unfold mx; split <;> omega
theorem mx_eq_right {a b : Int} (h : a ≤ b) : mx a b = b := by unfold mx; split <;> omega

theorem divU_nonneg {a b : Int} (ha : 0 ≤ a) (hb : 1 ≤ b) : 0 ≤ divU a b := Int.ediv_nonneg (by omega) (by omega)
theorem divU_le {a b : Int} (ha : 0 ≤ a) (hb : 1 ≤ b) : divU a b ≤ a := by
  unfold divU
  refine Int.le_of_lt_add_one (Int.ediv_lt_of_lt_mul (by omega) ?_)
  have h : a * 1 ≤ a * b := Int.mul_le_mul_of_nonneg_left hb ha
  rw [Int.add_mul, Int.one_mul]
  omega
/-- A product of two numbers between bounds. -/
theorem mul_le {a b A B : Int} (ha : 0 ≤ a) (hA : a ≤ A) (hb : 0 ≤ b) (hB : b ≤ B) : a * b ≤ A * B :=
  Int.mul_le_mul hA hB hb (by omega)
theorem mul_ge {a b : Int} (ha : 0 ≤ a) (hb : 0 ≤ b) : 0 ≤ a * b := Int.mul_nonneg ha hb
/-- .. of any sign. -/
theorem mul_abs {a b A B : Int} (hA0 : -A ≤ a) (hA : a ≤ A) (hB0 : -B ≤ b) (hB : b ≤ B) : -(A * B) ≤ a * b ∧ a * b ≤ A * B := by
  have hA' : 0 ≤ A := by omega
  have hB' : 0 ≤ B := by omega
  rcases Int.le_total 0 a with h | h <;> rcases Int.le_total 0 b with k | k
  · have := mul_le h hA k hB; have := mul_ge h k; have := mul_ge hA' hB'; omega
  · have e := mul_le h hA (b := -b) (by omega) (B := B) (by omega); have e2 := mul_ge h (b := -b) (by omega); rw [Int.mul_neg] at e e2; have := mul_ge hA' hB'; omega
  · have e := mul_le (a := -a) (by omega) (A := A) (by omega) k hB; have e2 := mul_ge (a := -a) (by omega) k; rw [Int.neg_mul] at e e2; have := mul_ge hA' hB'; omega
  · have e := mul_le (a := -a) (by omega) (A := A) (by omega) (b := -b) (by omega) (B := B) (by omega); have e2 := mul_ge (a := -a) (by omega) (b := -b) (by omega); rw [Int.neg_mul_neg] at e e2; have := mul_ge hA' hB'; omega
end Go.Proofs.Ytlgagnbnjfneaaa.Pl
