/- Walks in a mine, plainly: rounds in which both programs lessen times, -1 for a junction that is not reached; when they end. No program in sight. No conditions but those that each theorem names. -/
import Derived.Test.YtlgagnbnjfneaaaRelax
import Derived.Test.YtlgagnbnjfneaaaMine
import Derived.Test.YtlgagnbnjfneaaaFit
namespace Go.Proofs.Ytlgagnbnjfneaaa
open Pl
def wrC (f t : Nat) (g : Int) (d : List Int) : Prop := 0 ≤ d.getD f 0 ∧ (d.getD t 0 < 0 ∨ d.getD f 0 + g < d.getD t 0)
instance (f t : Nat) (g : Int) (d : List Int) : Decidable (wrC f t g d) := by unfold wrC; infer_instance
def wrl (f t : Nat) (g : Int) (d : List Int) : List Int := if wrC f t g d then d.set t (d.getD f 0 + g) else d
theorem wrl_yes {f t : Nat} {g : Int} {d : List Int} (h : wrC f t g d) : wrl f t g d = d.set t (d.getD f 0 + g) := if_pos h
theorem wrl_no {f t : Nat} {g : Int} {d : List Int} (h : ¬ wrC f t g d) : wrl f t g d = d := if_neg h
theorem wrl_len (f t : Nat) (g : Int) (d : List Int) : (wrl f t g d).length = d.length := by unfold wrl; split <;> simp
def WBd (c : Nat) (d : List Int) : Prop := ∀ i, -1 ≤ d.getD i 0 ∧ d.getD i 0 ≤ (c : Int) * 200000
theorem WBd.more {c c' : Nat} {d : List Int} (h : WBd c d) (hc : c ≤ c') : WBd c' d := fun i => by have := h i; omega
theorem WBd.wrl {c : Nat} {d : List Int} {f t : Nat} {g : Int} (h : WBd c d) (hg : 0 ≤ g ∧ g ≤ 200000) (ht : t < d.length) : WBd (c + 1) (wrl f t g d) := by
  intro i
  have h1 := h i
  have h2 := h f
  unfold Go.Proofs.Ytlgagnbnjfneaaa.wrl
  split
  · rename_i hc
    have := hc.1
    rw [getD_set _ _ _ _ ht]
    split <;> omega
  · omega
/-- A time, a great one for a junction that is not reached. -/
def far : Int := 1000000000000
def enc (d : List Int) : Nat → Int := fun i => if d.getD i 0 < 0 then far else d.getD i 0
theorem wrl_enc {c : Nat} {d : List Int} {f t : Nat} {g : Int} (h : WBd c d) (hc : (c : Int) ≤ 1000000) (hg : 0 ≤ g ∧ g ≤ 200000) (ht : t < d.length) : enc (wrl f t g d) = Rx.relax (enc d) ⟨f, t, g⟩ := by
  have h2 := h f
  have h3 := h t
  funext i
  have h1 := h i
  by_cases hh : wrC f t g d
  · rw [wrl_yes hh]
    obtain ⟨a, b⟩ := hh
    have e1 : enc d f = d.getD f 0 := if_neg (by omega)
    have e2 : enc d f + g < enc d t := by
      rw [e1]
      unfold enc far
      split <;> omega
    unfold Rx.relax
    show _ = (if enc d f + g < enc d t then Rx.upd (enc d) t (enc d f + g) else enc d) i
    rw [if_pos e2]
    unfold Rx.upd enc
    rw [getD_set _ _ _ _ ht]
    by_cases e : i = t
    · rw [if_pos e, if_pos e, if_neg (by omega), if_neg (by omega)]
    · rw [if_neg e, if_neg e]
  · rw [wrl_no hh]
    have e2 : ¬ enc d f + g < enc d t := by
      intro h'
      apply hh
      unfold enc far at h'
      unfold wrC
      split at h' <;> split at h' <;> omega
    unfold Rx.relax
    show _ = (if enc d f + g < enc d t then Rx.upd (enc d) t (enc d f + g) else enc d) i
    rw [if_neg e2]
section
variable (xs : List Aw) (G : Nat → Int)
def wst (k : Nat) (d : List Int) : List Int := wrl (aT xs k) (aF xs k) (G k) (wrl (aF xs k) (aT xs k) (G k) d)
def wrnd : Nat → List Int → List Int | 0, d => d | k + 1, d => wst xs G k (wrnd k d)
def wmv : Nat → List Int → Bool | 0, _ => false | k + 1, d => (wmv k d || decide (wrC (aF xs k) (aT xs k) (G k) (wrnd xs G k d))) || decide (wrC (aT xs k) (aF xs k) (G k) (wrl (aF xs k) (aT xs k) (G k) (wrnd xs G k d)))
def wrs : Nat → List Int → List Int | 0, d => d | r + 1, d => wrnd xs G xs.length (wrs r d)
variable {xs G}
theorem wst_len (k : Nat) (d : List Int) : (wst xs G k d).length = d.length := by unfold wst; rw [wrl_len, wrl_len]
theorem wrnd_len : ∀ (k : Nat) (d : List Int), (wrnd xs G k d).length = d.length
  | 0, _ => rfl
  | k + 1, d => by unfold wrnd; rw [wst_len]; exact wrnd_len k d
theorem wrs_len : ∀ (r : Nat) (d : List Int), (wrs xs G r d).length = d.length
  | 0, _ => rfl
  | r + 1, d => by unfold wrs; rw [wrnd_len]; exact wrs_len r d
def WG (xs : List Aw) (G : Nat → Int) : Prop := ∀ k, k < xs.length → 0 ≤ G k ∧ G k ≤ 200000
theorem WBd.wrnd {c : Nat} {d : List Int} {J : Nat} (h : WBd c d) (he : Ends xs J) (hg : WG xs G) (hd : d.length = J) : ∀ k, k ≤ xs.length → WBd (c + 2 * k) (wrnd xs G k d)
  | 0, _ => h
  | k + 1, hk => by
    have ih := WBd.wrnd h he hg hd k (by omega)
    have l := wrnd_len (xs := xs) (G := G) k d
    obtain ⟨e1, e2⟩ := he k (by omega)
    have a := WBd.wrl (f := aF xs k) (t := aT xs k) ih (hg k (by omega)) (by rw [l, hd]; exact e2)
    have b := WBd.wrl (f := aT xs k) (t := aF xs k) a (hg k (by omega)) (by rw [wrl_len, l, hd]; exact e1)
    exact b.more (by omega)
theorem WBd.wrs {c : Nat} {d : List Int} {J : Nat} (h : WBd c d) (he : Ends xs J) (hg : WG xs G) (hd : d.length = J) : ∀ r, WBd (c + 2 * xs.length * r) (wrs xs G r d)
  | 0 => h
  | r + 1 => by
    have ih := WBd.wrs h he hg hd r
    have a := ih.wrnd he hg ((wrs_len r d).trans hd) xs.length (Nat.le_refl _)
    have e : 2 * xs.length * (r + 1) = 2 * xs.length * r + 2 * xs.length := by rw [Nat.mul_add, Nat.mul_one]
    exact a.more (by omega)
variable (xs G) in
def wedg (k : Nat) : List Rx.Edge := [⟨aF xs k, aT xs k, G k⟩, ⟨aT xs k, aF xs k, G k⟩]
variable (xs G) in
def wedgs (n : Nat) : List Rx.Edge := (List.range n).flatMap (wedg xs G)
theorem wedgs_succ (n : Nat) : wedgs xs G (n + 1) = wedgs xs G n ++ wedg xs G n := by unfold wedgs; rw [List.range_succ, List.flatMap_append]; simp
theorem wedgs_mem {n : Nat} {e : Rx.Edge} : e ∈ wedgs xs G n ↔ ∃ k, k < n ∧ e ∈ wedg xs G k := by
  unfold wedgs
  rw [List.mem_flatMap]
  exact ⟨fun ⟨k, hk, h⟩ => ⟨k, List.mem_range.1 hk, h⟩, fun ⟨k, hk, h⟩ => ⟨k, List.mem_range.2 hk, h⟩⟩
theorem wrnd_enc {c : Nat} {d : List Int} {J : Nat} (h : WBd c d) (hc : (c : Int) + 2 * xs.length ≤ 1000000) (he : Ends xs J) (hg : WG xs G) (hd : d.length = J) : ∀ n, n ≤ xs.length → enc (wrnd xs G n d) = Rx.round (wedgs xs G n) (enc d)
  | 0, _ => rfl
  | n + 1, hn => by
    have ih := wrnd_enc h hc he hg hd n (by omega)
    have l := wrnd_len (xs := xs) (G := G) n d
    obtain ⟨e1, e2⟩ := he n (by omega)
    have b := h.wrnd he hg hd n (by omega)
    have b1 := WBd.wrl (f := aF xs n) (t := aT xs n) b (hg n (by omega)) (by rw [l, hd]; exact e2)
    rw [wedgs_succ]
    unfold Rx.round at *
    rw [List.foldl_append, ← ih]
    show enc (wrl (aT xs n) (aF xs n) (G n) (wrl (aF xs n) (aT xs n) (G n) (wrnd xs G n d))) = List.foldl Rx.relax _ [_, _]
    rw [wrl_enc b1 (by omega) (hg n (by omega)) (by rw [wrl_len, l, hd]; exact e1), wrl_enc b (by omega) (hg n (by omega)) (by rw [l, hd]; exact e2)]
    rfl
theorem wrs_enc {c : Nat} {d : List Int} {J : Nat} (h : WBd c d) (he : Ends xs J) (hg : WG xs G) (hd : d.length = J) : ∀ r, (c : Int) + 2 * (xs.length * r : Nat) ≤ 1000000 → enc (wrs xs G r d) = Rx.rounds (wedgs xs G xs.length) r (enc d)
  | 0, _ => rfl
  | r + 1, hc => by
    have e : 2 * xs.length * r = 2 * (xs.length * r) := Nat.mul_assoc _ _ _
    have e' : xs.length * (r + 1) = xs.length * r + xs.length := by rw [Nat.mul_add, Nat.mul_one]
    have ih := wrs_enc h he hg hd r (by omega)
    have b := h.wrs he hg hd r
    show enc (wrnd xs G xs.length (wrs xs G r d)) = Rx.round _ (Rx.rounds _ r (enc d))
    rw [wrnd_enc b (by omega) he hg ((wrs_len r d).trans hd) xs.length (Nat.le_refl _), ih]
theorem wmv_no : ∀ {k : Nat} {d : List Int}, wmv xs G k d = false → wrnd xs G k d = d
  | 0, _, _ => rfl
  | k + 1, d, h => by
    simp only [wmv, Bool.or_eq_false_iff] at h
    obtain ⟨⟨h1, h2⟩, h3⟩ := h
    have e := wmv_no h1
    unfold wrnd wst
    rw [e] at h2 h3 ⊢
    have e1 := wrl_no (of_decide_eq_false h2)
    rw [e1] at h3 ⊢
    exact wrl_no (of_decide_eq_false h3)
theorem wrl_lt {c : Nat} {d : List Int} {f t : Nat} {g : Int} (h : WBd c d) (hc : (c : Int) ≤ 1000000) (hg : 0 ≤ g ∧ g ≤ 200000) (ht : t < d.length) (hh : wrC f t g d) : enc (wrl f t g d) t < enc d t := by
  rw [wrl_enc h hc hg ht]
  have h2 := h f
  have h3 := h t
  obtain ⟨a, b⟩ := hh
  have e1 : enc d f = d.getD f 0 := if_neg (by omega)
  have e2 : enc d f + g < enc d t := by
    rw [e1]
    unfold enc far
    split <;> omega
  unfold Rx.relax
  show (if enc d f + g < enc d t then Rx.upd (enc d) t (enc d f + g) else enc d) t < _
  rw [if_pos e2]
  unfold Rx.upd
  rw [if_pos rfl]
  exact e2
theorem wmv_yes {c : Nat} {d : List Int} {J : Nat} (h : WBd c d) (hc : (c : Int) + 2 * xs.length ≤ 1000000) (he : Ends xs J) (hg : WG xs G) (hd : d.length = J) : ∀ {n : Nat}, n ≤ xs.length → wmv xs G n d = true → ∃ i, enc (wrnd xs G n d) i < enc d i
  | 0, _, hm => by cases hm
  | n + 1, hn, hm => by
    have l := wrnd_len (xs := xs) (G := G) n d
    obtain ⟨e1, e2⟩ := he n (by omega)
    have b := h.wrnd he hg hd n (by omega)
    have t2 : aT xs n < (wrnd xs G n d).length := by rw [l, hd]; exact e2
    have b1 := WBd.wrl (f := aF xs n) (t := aT xs n) b (hg n (by omega)) t2
    have t1 : aF xs n < (wrl (aF xs n) (aT xs n) (G n) (wrnd xs G n d)).length := by rw [wrl_len, l, hd]; exact e1
    have h1 : ∀ i, enc (wrl (aF xs n) (aT xs n) (G n) (wrnd xs G n d)) i ≤ enc (wrnd xs G n d) i := fun i => by rw [wrl_enc b (by omega) (hg n (by omega)) t2]; exact Rx.relax_le _ _ _
    have h2 : ∀ i, enc (wrnd xs G (n + 1) d) i ≤ enc (wrl (aF xs n) (aT xs n) (G n) (wrnd xs G n d)) i := fun i => by
      show enc (wrl (aT xs n) (aF xs n) (G n) (wrl (aF xs n) (aT xs n) (G n) (wrnd xs G n d))) i ≤ _
      rw [wrl_enc b1 (by omega) (hg n (by omega)) t1]; exact Rx.relax_le _ _ _
    have h0 : ∀ i, enc (wrnd xs G n d) i ≤ enc d i := fun i => by rw [wrnd_enc h hc he hg hd n (by omega)]; exact Rx.round_le _ _ _
    simp only [wmv, Bool.or_eq_true, decide_eq_true_eq] at hm
    rcases hm with (hm | hm) | hm
    · obtain ⟨i, hi⟩ := wmv_yes h hc he hg hd (by omega) hm
      exact ⟨i, by have := h1 i; have := h2 i; omega⟩
    · have := wrl_lt b (by omega) (hg n (by omega)) t2 hm
      exact ⟨aT xs n, by have := h2 (aT xs n); have := h0 (aT xs n); omega⟩
    · have hl : enc (wrnd xs G (n + 1) d) (aF xs n) < enc (wrl (aF xs n) (aT xs n) (G n) (wrnd xs G n d)) (aF xs n) := wrl_lt b1 (by omega) (hg n (by omega)) t1 hm
      exact ⟨aF xs n, by have := h1 (aF xs n); have := h0 (aF xs n); omega⟩
theorem wrs_still {d : List Int} {r : Nat} (h : wrnd xs G xs.length (wrs xs G r d) = wrs xs G r d) : ∀ k, wrs xs G (r + k) d = wrs xs G r d
  | 0 => rfl
  | k + 1 => by show wrnd xs G xs.length (wrs xs G (r + k) d) = _; rw [wrs_still h k, h]
/-- From the last junction but one on, no round lessens a time. -/
theorem wstop {d : List Int} {J : Nat} (h : WBd 0 d) (he : Ends xs J) (hg : WG xs G) (hd : d.length = J) (hJ : 1 ≤ J) (hJ2 : J ≤ 16) (hx : xs.length ≤ 24) {q : Nat} (hq : J - 1 ≤ q) : wmv xs G xs.length (wrs xs G q d) = false := by
  have hE : ∀ e ∈ wedgs xs G xs.length, e.frm < J ∧ e.to < J := by
    intro e hm
    obtain ⟨k, hk, hm⟩ := wedgs_mem.1 hm
    have := he k hk
    unfold wedg at hm
    rcases List.mem_cons.1 hm with rfl | hm
    · exact this
    · obtain rfl := List.mem_singleton.1 hm
      exact ⟨this.2, this.1⟩
  have hF : Rx.Fits (wedgs xs G xs.length) (fun _ => 0) := by
    intro e hm
    obtain ⟨k, hk, hm⟩ := wedgs_mem.1 hm
    have := hg k hk
    unfold wedg at hm
    rcases List.mem_cons.1 hm with rfl | hm
    · show (0 : Int) ≤ 0 + G k; omega
    · obtain rfl := List.mem_singleton.1 hm
      show (0 : Int) ≤ 0 + G k; omega
  have hp : ∀ i, (fun _ => (0 : Int)) i ≤ enc d i := fun i => by
    unfold enc far
    show (0 : Int) ≤ _
    split <;> omega
  have hen := Rx.enough hE hF hp (by omega)
  have hmul : xs.length * (J - 1) ≤ 24 * 15 := Nat.mul_le_mul hx (by omega)
  have hen' := wrs_enc h he hg hd (J - 1) (by omega)
  have hb := h.wrs he hg hd (J - 1)
  have e2 : 2 * xs.length * (J - 1) = 2 * (xs.length * (J - 1)) := Nat.mul_assoc _ _ _
  have h0 : wmv xs G xs.length (wrs xs G (J - 1) d) = false := by
    cases hm : wmv xs G xs.length (wrs xs G (J - 1) d)
    · rfl
    · exfalso
      obtain ⟨i, hi⟩ := wmv_yes hb (by omega) he hg ((wrs_len _ _).trans hd) (Nat.le_refl _) hm
      rw [wrnd_enc hb (by omega) he hg ((wrs_len _ _).trans hd) xs.length (Nat.le_refl _), hen', hen] at hi
      omega
  have hs := wrs_still (wmv_no h0) (q - (J - 1))
  rw [show J - 1 + (q - (J - 1)) = q by omega] at hs
  rw [hs]
  exact h0
/-- Where a round lessens nothing, all later ones do not either. -/
theorem wend {d : List Int} {J q : Nat} (hq : q ≤ J) (h : wmv xs G xs.length (wrs xs G q d) = false) : wrs xs G J d = wrs xs G q d := by
  have := wrs_still (wmv_no h) (J - q)
  rw [show q + (J - q) = J by omega] at this
  exact this
end
/-- The times of walks from a junction. -/
def gw (v : Int) (xs : List Aw) (k : Nat) : Int := divU (100 * (xs.getD k aNone).l) v
def wstart (J a : Nat) : List Int := (List.replicate J (-1)).set a 0
def walkL (J : Nat) (xs : List Aw) (a : Nat) (v : Int) : List Int := wrs xs (gw v xs) J (wstart J a)
noncomputable def wtF (J : Int) (xs : List Aw) (a v : Int) : List Int × Int := if mineB J xs then (if inB a 0 (J - 1) && inB v 10 300 then (walkL J.toNat xs a.toNat v, 0) else ([], 2)) else ([], 1)
theorem wtF_len (J : Int) (xs : List Aw) (a v : Int) : (wtF J xs a v).1.length ≤ 1048576 := by
  unfold wtF
  split
  · rename_i h
    have := (mineB_bd h).1
    split
    · show (walkL _ _ _ _).length ≤ _
      unfold walkL wstart
      rw [wrs_len, List.length_set, List.length_replicate]
      omega
    · simp
  · simp
theorem wstart_bd (J a : Nat) : WBd 0 (wstart J a) := by
  intro i
  unfold wstart
  simp only [List.getD, List.getElem?_set, List.getElem?_replicate]
  split
  · split <;> simp
  · split <;> simp
theorem wstart_len (J a : Nat) : (wstart J a).length = J := by unfold wstart; simp
theorem gw_bd {J v : Int} {xs : List Aw} (h : mineB J xs = true) (h1 : 10 ≤ v) (h2 : v ≤ 300) : WG xs (gw v xs) ∧ ∀ k, k < xs.length → 1 ≤ (xs.getD k aNone).l ∧ (xs.getD k aNone).l ≤ 10000 := by
  obtain ⟨_, _, h3⟩ := mineB_bd h
  have hl : ∀ k, k < xs.length → 1 ≤ (xs.getD k aNone).l ∧ (xs.getD k aNone).l ≤ 10000 := fun k hk => (airwayB_bd (h3 k hk).1).2.2.2.1
  refine ⟨fun k hk => ?_, hl⟩
  have := hl k hk
  unfold gw divU
  have a := Int.ediv_nonneg (a := 100 * (xs.getD k aNone).l + v - 1) (b := v) (by omega) (by omega)
  have b := Int.ediv_le_self (a := 100 * (xs.getD k aNone).l + v - 1) v (by omega)
  have c : (100 * (xs.getD k aNone).l + v - 1) / v ≤ (100 * (xs.getD k aNone).l + v - 1) / 10 := by
    have e1 := Int.mul_ediv_add_emod (100 * (xs.getD k aNone).l + v - 1) v
    have e2 := Int.emod_nonneg (100 * (xs.getD k aNone).l + v - 1) (show v ≠ 0 by omega)
    refine (Int.le_ediv_iff_mul_le (by decide)).2 ?_
    have e3 : (100 * (xs.getD k aNone).l + v - 1) / v * 10 ≤ (100 * (xs.getD k aNone).l + v - 1) / v * v := Int.mul_le_mul_of_nonneg_left (by omega) a
    have e4 : v * ((100 * (xs.getD k aNone).l + v - 1) / v) = (100 * (xs.getD k aNone).l + v - 1) / v * v := Int.mul_comm _ _
    omega
  exact ⟨a, by omega⟩
end Go.Proofs.Ytlgagnbnjfneaaa
