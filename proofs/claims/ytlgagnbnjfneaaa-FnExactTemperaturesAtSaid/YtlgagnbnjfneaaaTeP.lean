/- The temperatures at a mine's junctions, plainly: what comes to a junction, which junction is next, when it ends. No program in sight. No conditions but those that each theorem names. -/
import Derived.Test.YtlgagnbnjfneaaaFit
import Derived.Test.YtlgagnbnjfneaaaBoo
import Derived.Test.YtlgagnbnjfneaaaFitW
import Derived.Test.YtlgagnbnjfneaaaSteps
import Derived.Test.YtlgagnbnjfneaaaHeat
import Derived.Test.YtlgagnbnjfneaaaMixT
namespace Go.Proofs.Ytlgagnbnjfneaaa
open Pl
/-- A mine's airways, its flows, what lies beside them, and the rate. -/
structure Hx where
  xs : List Aw
  fs : List Int
  rs : List Int
  ps : List Int
  q : Int
namespace Hx
variable (H : Hx)
/-- From which and to which junction air comes in an airway; how much; how long. -/
def s (k : Nat) : Nat := if 0 < H.fs.getD k 0 then aF H.xs k else aT H.xs k
def e (k : Nat) : Nat := if 0 < H.fs.getD k 0 then aT H.xs k else aF H.xs k
def amt (k : Nat) : Int := ((H.fs.getD k 0).natAbs : Int)
def tm (k : Nat) : Int := mn 100000 (divU ((H.xs.getD k aNone).l * (H.xs.getD k aNone).c) (H.amt k))
def wrm (d : List Int) (k : Nat) : Int := warmF (H.rs.getD k 0) H.q (d.getD (H.s k) 0) ((H.tm k).toNat / 10)
def wm (d : List Int) (k : Nat) : Int := clipF (H.wrm d k + heatF (H.ps.getD k 0) (H.amt k) 1200)
/-- Air comes to a junction in an airway; its temperature is known. -/
def cm (j k : Nat) : Bool := decide (H.fs.getD k 0 ≠ 0) && decide (H.e k = j)
def kn (d : List Int) (k : Nat) : Bool := decide (d.getD (H.s k) 0 ≠ -1000)
def tk (d : List Int) (j k : Nat) : Bool := H.cm j k && H.kn d k
def lA (d : List Int) (j : Nat) : Nat → List Int | 0 => [] | k + 1 => if H.tk d j k then lA d j k ++ [H.amt k] else lA d j k
def lW (d : List Int) (j : Nat) : Nat → List Int | 0 => [] | k + 1 => if H.tk d j k then lW d j k ++ [H.wm d k] else lW d j k
def bad (d : List Int) (j k : Nat) : Bool := H.cm j k && !H.kn d k
def rdy (d : List Int) (j : Nat) (k : Nat) : Bool := allUp (fun i => !H.bad d j i) k
def into (d : List Int) (j : Nat) : Option Int := if H.rdy d j H.xs.length && decide (0 < (H.lA d j H.xs.length).length) then some (mixTF (H.lA d j H.xs.length) (H.lW d j H.xs.length)) else none
theorem lA_yes {d : List Int} {j k : Nat} (h1 : H.cm j k = true) (h2 : H.kn d k = true) : H.lA d j (k + 1) = H.lA d j k ++ [H.amt k] := by rw [lA, tk, h1, h2]; rfl
theorem lW_yes {d : List Int} {j k : Nat} (h1 : H.cm j k = true) (h2 : H.kn d k = true) : H.lW d j (k + 1) = H.lW d j k ++ [H.wm d k] := by rw [lW, tk, h1, h2]; rfl
theorem lA_no {d : List Int} {j k : Nat} (h : H.tk d j k = false) : H.lA d j (k + 1) = H.lA d j k := by rw [lA, h]; rfl
theorem lW_no {d : List Int} {j k : Nat} (h : H.tk d j k = false) : H.lW d j (k + 1) = H.lW d j k := by rw [lW, h]; rfl
theorem rdy_succ (d : List Int) (j k : Nat) : H.rdy d j (k + 1) = (H.rdy d j k && !H.bad d j k) := rfl
theorem rdy_down {d : List Int} {j k : Nat} (h : H.rdy d j k = false) : ∀ n, k ≤ n → H.rdy d j n = false := by
  intro n hn
  cases hr : H.rdy d j n
  · rfl
  · have := (allUp_iff _ _).1 hr
    have h' : H.rdy d j k = true := (allUp_iff _ _).2 (fun i hi => this i (by omega))
    rw [h] at h'; cases h'
theorem into_no {d : List Int} {j : Nat} (h : H.rdy d j H.xs.length = false) : H.into d j = none := by unfold into; rw [h]; rfl
theorem into_none {d : List Int} {j : Nat} (h : (H.lA d j H.xs.length).length = 0) : H.into d j = none := by unfold into; rw [h]; simp
theorem into_some {d : List Int} {j : Nat} (h : H.rdy d j H.xs.length = true) (h' : 0 < (H.lA d j H.xs.length).length) : H.into d j = some (mixTF (H.lA d j H.xs.length) (H.lW d j H.xs.length)) := by unfold into; rw [h, decide_eq_true h']; rfl
theorem l_len (d : List Int) (j : Nat) : ∀ k, (H.lA d j k).length = (H.lW d j k).length ∧ (H.lA d j k).length ≤ k
  | 0 => by simp [lA, lW]
  | k + 1 => by
    obtain ⟨a, b⟩ := l_len d j k
    unfold lA lW
    split
    · simp; omega
    · exact ⟨a, by omega⟩
/-- What holds of a mine and its lists. -/
structure Ok (N : Nat) : Prop where
  hm : mineB (N : Int) H.xs = true
  lf : H.fs.length = H.xs.length
  lr : H.rs.length = H.xs.length
  lp : H.ps.length = H.xs.length
  hf : ∀ k, k < H.xs.length → -100000 ≤ H.fs.getD k 0 ∧ H.fs.getD k 0 ≤ 100000
  hr : ∀ k, k < H.xs.length → 0 ≤ H.rs.getD k 0 ∧ H.rs.getD k 0 ≤ 900
  hp : ∀ k, k < H.xs.length → -10000000 ≤ H.ps.getD k 0 ∧ H.ps.getD k 0 ≤ 10000000
  hq : 0 ≤ H.q ∧ H.q ≤ 1000
/-- A list of temperatures, some not known. -/
def Tl (N : Nat) (d : List Int) : Prop := d.length = N ∧ ∀ i, i < N → d.getD i 0 = -1000 ∨ (-100 ≤ d.getD i 0 ∧ d.getD i 0 ≤ 600)
variable {H}
theorem Ok.len {N : Nat} (h : H.Ok N) : H.xs.length ≤ 24 := by have := (mineB_bd h.hm).2.1; omega
theorem Ok.n {N : Nat} (h : H.Ok N) : 1 ≤ N ∧ N ≤ 16 := by have := (mineB_bd h.hm).1; omega
theorem Ok.s {N k : Nat} (h : H.Ok N) (hk : k < H.xs.length) : H.s k < N ∧ H.e k < N := by
  obtain ⟨a, b⟩ := (mineB_ends h.hm).1 k hk
  rw [Int.toNat_natCast] at a b
  unfold Hx.s Hx.e
  split <;> omega
theorem Ok.amt {N k : Nat} (h : H.Ok N) (hk : k < H.xs.length) (h0 : H.fs.getD k 0 ≠ 0) : 1 ≤ H.amt k ∧ H.amt k ≤ 100000 := by
  have := h.hf k hk
  unfold Hx.amt
  omega
theorem Ok.tm {N k : Nat} (h : H.Ok N) (hk : k < H.xs.length) (h0 : H.fs.getD k 0 ≠ 0) : (0 ≤ (H.xs.getD k aNone).l * (H.xs.getD k aNone).c ∧ (H.xs.getD k aNone).l * (H.xs.getD k aNone).c ≤ 50000000) ∧ 0 ≤ divU ((H.xs.getD k aNone).l * (H.xs.getD k aNone).c) (H.amt k) ∧ divU ((H.xs.getD k aNone).l * (H.xs.getD k aNone).c) (H.amt k) ≤ 50000000 ∧ 0 ≤ H.tm k ∧ H.tm k ≤ 100000 := by
  obtain ⟨_, _, _, ⟨l1, l2⟩, ⟨c1, c2⟩, _⟩ := airwayB_bd ((mineB_bd h.hm).2.2 k hk).1
  obtain ⟨a1, a2⟩ := h.amt hk h0
  have m1 := mul_le (by omega : 0 ≤ (H.xs.getD k aNone).l) l2 (by omega : 0 ≤ (H.xs.getD k aNone).c) c2
  have m2 := mul_ge (by omega : 0 ≤ (H.xs.getD k aNone).l) (by omega : 0 ≤ (H.xs.getD k aNone).c)
  have d1 := divU_nonneg m2 a1
  have d2 := divU_le m2 a1
  refine ⟨⟨m2, by omega⟩, d1, by omega, ?_, ?_⟩
  · unfold Hx.tm; rcases mn_or 100000 (divU ((H.xs.getD k aNone).l * (H.xs.getD k aNone).c) (H.amt k)) with e | e <;> rw [e] <;> omega
  · unfold Hx.tm; exact mn_le_left _ _
theorem Ok.wrm {N k : Nat} {d : List Int} (h : H.Ok N) (hd : Tl N d) (hk : k < H.xs.length) (hn : H.kn d k = true) : (-100 ≤ d.getD (H.s k) 0 ∧ d.getD (H.s k) 0 ≤ 600) ∧ -100 ≤ H.wrm d k ∧ H.wrm d k ≤ 600 := by
  have h1 : -100 ≤ d.getD (H.s k) 0 ∧ d.getD (H.s k) 0 ≤ 600 := by
    have := hd.2 _ (h.s hk).1
    have h2 : d.getD (H.s k) 0 ≠ -1000 := of_decide_eq_true hn
    omega
  exact ⟨h1, warm_bd h1.1 h1.2 _⟩
theorem Ok.lists {N : Nat} {d : List Int} {j : Nat} (h : H.Ok N) : ∀ k, k ≤ H.xs.length → (∀ x ∈ H.lA d j k, 1 ≤ x ∧ x ≤ 100000) ∧ ∀ y ∈ H.lW d j k, -100 ≤ y ∧ y ≤ 600
  | 0, _ => by simp [lA, lW]
  | k + 1, hk => by
    obtain ⟨a, b⟩ := Ok.lists (d := d) (j := j) h k (by omega)
    unfold lA lW
    split
    · rename_i ht
      have h0 : H.fs.getD k 0 ≠ 0 := by
        simp only [tk, cm, Bool.and_eq_true] at ht
        exact of_decide_eq_true ht.1.1
      refine ⟨fun x hx => ?_, fun y hy => ?_⟩
      · rcases List.mem_append.1 hx with hx | hx
        · exact a x hx
        · rw [List.mem_singleton] at hx; subst hx; exact h.amt (by omega) h0
      · rcases List.mem_append.1 hy with hy | hy
        · exact b y hy
        · rw [List.mem_singleton] at hy; subst hy; exact clip_bd _
    · exact ⟨a, b⟩
/-- A sum of products between bounds. -/
theorem dot_between {xs ys : List Int} {lo hi : Int} (h1 : ∀ x ∈ xs, 0 ≤ x) (h2 : ∀ y ∈ ys, lo ≤ y ∧ y ≤ hi) : ∀ k, k ≤ xs.length → k ≤ ys.length → lo * sumN xs k ≤ dotN xs ys k ∧ dotN xs ys k ≤ hi * sumN xs k
  | 0, _, _ => by simp [sumN, dotN]
  | k + 1, hk, hk' => by
    obtain ⟨a, b⟩ := dot_between h1 h2 k (by omega) (by omega)
    have x0 := h1 _ (List.getElem_mem (l := xs) (n := k) (by omega))
    obtain ⟨y1, y2⟩ := h2 _ (List.getElem_mem (l := ys) (n := k) (by omega))
    rw [← getD_eq] at x0 y1 y2
    rw [sumN, dotN]
    have m1 := Int.mul_le_mul_of_nonneg_right y1 x0
    have m2 := Int.mul_le_mul_of_nonneg_right y2 x0
    rw [Int.mul_comm (ys.getD k 0) (xs.getD k 0)] at m1 m2
    rw [Int.mul_add, Int.mul_add]
    omega
theorem Ok.into {N : Nat} {d : List Int} {j : Nat} {v : Int} (h : H.Ok N) (hv : H.into d j = some v) : -100 ≤ v ∧ v ≤ 600 := by
  unfold Hx.into at hv
  split at hv
  · rename_i hc
    injection hv with hv
    subst hv
    rw [Bool.and_eq_true] at hc
    have h0 : 0 < (H.lA d j H.xs.length).length := of_decide_eq_true hc.2
    obtain ⟨l1, l2⟩ := h.lists (d := d) (j := j) _ (Nat.le_refl _)
    obtain ⟨e1, e2⟩ := H.l_len d j H.xs.length
    obtain ⟨a, b⟩ := dot_between (fun x hx => by have := (l1 x hx).1; omega) l2 (H.lA d j H.xs.length).length (Nat.le_refl _) (by omega)
    obtain ⟨s1, s2⟩ := sumN_pos l1 (H.lA d j H.xs.length).length (Nat.le_refl _)
    unfold mixTF
    generalize dotN _ _ _ = D at *
    generalize sumN _ _ = S at *
    exact ⟨le_divR (by omega) (by omega) (by omega), divR_le (by omega) (by omega) (by omega)⟩
  · cases hv
variable (H)
/-- The next junction; the list behind it; the lists in turn. -/
def hit (d : List Int) (j : Nat) : Bool := decide (d.getD j 0 = -1000) && (H.into d j).isSome
def at_ (N : Nat) (d : List Int) : Nat := stopAt (fun j => !H.hit d j) N
def nxt (N : Nat) (d : List Int) : List Int := if H.at_ N d < N then d.set (H.at_ N d) ((H.into d (H.at_ N d)).getD 0) else d
def go (N : Nat) : Nat → List Int → List Int | 0, d => d | r + 1, d => go N r (H.nxt N d)
/-- How many are not known. -/
def unk (d : List Int) : Nat → Nat | 0 => 0 | i + 1 => unk d i + if d.getD i 0 = -1000 then 1 else 0
theorem unk_le (d : List Int) : ∀ n, unk d n ≤ n
  | 0 => Nat.le_refl _
  | n + 1 => by have := unk_le d n; unfold unk; split <;> omega
theorem unk_set {d : List Int} {m : Nat} {v : Int} (hm : m < d.length) (h : d.getD m 0 = -1000) (hv : v ≠ -1000) : ∀ n, unk (d.set m v) n + (if m < n then 1 else 0) = unk d n
  | 0 => by simp [unk]
  | n + 1 => by
    have ih := unk_set hm h hv n
    unfold unk
    rw [getD_set _ _ _ _ hm]
    by_cases e : n = m
    · subst e
      rw [if_pos rfl, if_neg hv, if_pos h, if_pos (show n < n + 1 by omega)]
      rw [if_neg (show ¬ n < n by omega)] at ih
      omega
    · rw [if_neg e]
      by_cases h2 : m < n
      · rw [if_pos h2] at ih; rw [if_pos (show m < n + 1 by omega)]; omega
      · rw [if_neg h2] at ih; rw [if_neg (show ¬ m < n + 1 by omega)]; omega
theorem unk_pos {d : List Int} {m : Nat} (h : d.getD m 0 = -1000) : ∀ n, m < n → 0 < unk d n
  | n + 1, hn => by
    unfold unk
    by_cases e : m = n
    · subst e; rw [if_pos h]; omega
    · have := unk_pos h n (by omega); omega
theorem nxt_no {N : Nat} {d : List Int} (h : ∀ j, j < N → H.hit d j = false) : H.nxt N d = d := by
  unfold nxt
  rw [if_neg]
  intro hlt
  obtain ⟨_, _, h3⟩ := stopAt_spec (fun j => !H.hit d j) N
  have := h3 hlt
  have h' := h _ hlt
  rw [show H.at_ N d = stopAt (fun j => !H.hit d j) N from rfl] at h'
  rw [h'] at this
  cases this
theorem stopAt_eq {P : Nat → Bool} {n m : Nat} (h1 : m < n) (h2 : ∀ k, k < m → P k = true) (h3 : P m = false) : stopAt P n = m := by
  obtain ⟨a, b, c⟩ := stopAt_spec P n
  rcases Nat.lt_trichotomy (stopAt P n) m with h | h | h
  · have := c (by omega); rw [h2 _ h] at this; cases this
  · exact h
  · have := b m h; rw [h3] at this; cases this
theorem nxt_yes {N : Nat} {d : List Int} {m : Nat} {v : Int} (h1 : m < N) (h2 : ∀ j, j < m → H.hit d j = false) (h3 : d.getD m 0 = -1000) (h4 : H.into d m = some v) : H.nxt N d = d.set m v := by
  have e : H.at_ N d = m := stopAt_eq h1 (fun k hk => by rw [h2 k hk]; rfl) (by unfold hit; rw [decide_eq_true h3, h4]; rfl)
  unfold nxt
  rw [e, if_pos h1, h4]
  rfl
theorem go_still {N : Nat} {d : List Int} (h : H.nxt N d = d) : ∀ r, H.go N r d = d
  | 0 => rfl
  | r + 1 => by unfold go; rw [h]; exact go_still h r
/-- What is kept from round to round, and what is left when no junction is next. -/
structure Turn (N : Nat) (d0 : List Int) (r : Nat) (d : List Int) : Prop where
  tl : Tl N d
  le : unk d N ≤ r
  eq : H.go N r d = H.go N N d0
theorem Turn.start {N : Nat} {d0 : List Int} (h : Tl N d0) : H.Turn N d0 N d0 := ⟨h, unk_le _ _, rfl⟩
variable {H}
theorem Turn.done {N r : Nat} {d0 d : List Int} (h : H.Turn N d0 r d) (hn : ∀ j, j < N → H.hit d j = false) : d = H.go N N d0 := by
  rw [← h.eq, H.go_still (H.nxt_no hn)]
theorem Turn.next {N r m : Nat} {d0 d : List Int} {v : Int} (h : H.Turn N d0 r d) (ho : H.Ok N) (h1 : m < N) (h2 : ∀ j, j < m → H.hit d j = false) (h3 : d.getD m 0 = -1000) (h4 : H.into d m = some v) : 0 < r ∧ H.Turn N d0 (r - 1) (d.set m v) := by
  have hv := ho.into h4
  have hml : m < d.length := by have := h.tl.1; omega
  have hu := unk_set hml h3 (v := v) (by omega) N
  rw [if_pos h1] at hu
  have hle := h.le
  obtain ⟨r', rfl⟩ : ∃ r', r = r' + 1 := ⟨r - 1, by omega⟩
  refine ⟨by omega, ⟨by simpa using h.tl.1, fun i hi => ?_⟩, by simp only [Nat.add_sub_cancel]; omega, ?_⟩
  · rw [getD_set _ _ _ _ hml]
    split
    · exact .inr hv
    · exact h.tl.2 i hi
  · have := h.eq
    rw [show H.go N (r' + 1) d = H.go N r' (H.nxt N d) from rfl, H.nxt_yes h1 h2 h3 h4] at this
    exact this
/-- The first list: a temperature at some junctions. -/
def put (t : Int) : List Int → List Int → List Int | [], d => d | a :: l, d => put t l (d.set a.toNat t)
def first (N : Nat) (su : List Int) (t : Int) : List Int := List.map (fun j : Nat => if (j : Int) ∈ su then t else -1000) (List.range N)
end Hx
end Go.Proofs.Ytlgagnbnjfneaaa
