/- Bounds along edges that are drawn in, round by round: where some numbers fit at all, a round for each junction but one is enough. Plain law: no program in sight. No conditions. -/
import Derived.RowKit
namespace Go.Proofs.Ytlgagnbnjfneaaa.Rx

/-- An edge: the number at 'to' is at most the number at 'frm' and 'gain'. -/
structure Edge where
  frm : Nat
  to : Nat
  gain : Int
def upd (d : Nat → Int) (v : Nat) (x : Int) : Nat → Int := fun i => if i = v then x else d i
def relax (d : Nat → Int) (e : Edge) : Nat → Int := if d e.frm + e.gain < d e.to then upd d e.to (d e.frm + e.gain) else d
def round (E : List Edge) (d : Nat → Int) : Nat → Int := E.foldl relax d
def rounds (E : List Edge) : Nat → (Nat → Int) → (Nat → Int) | 0, d => d | r + 1, d => round E (rounds E r d)
def Fits (E : List Edge) (p : Nat → Int) : Prop := ∀ e ∈ E, p e.to ≤ p e.frm + e.gain

theorem relax_le (d : Nat → Int) (e : Edge) (i : Nat) : relax d e i ≤ d i := by
  unfold relax
  split
  · unfold upd; split
    · rename_i h1 h2; subst h2; omega
    · exact Int.le_refl _
  · exact Int.le_refl _
theorem relax_to (d : Nat → Int) (e : Edge) : relax d e e.to ≤ d e.frm + e.gain := by
  unfold relax
  split
  · unfold upd; rw [if_pos rfl]; exact Int.le_refl _
  · omega
theorem round_le : ∀ (E : List Edge) (d : Nat → Int) (i : Nat), round E d i ≤ d i
  | [], _, _ => Int.le_refl _
  | e :: E, d, i => Int.le_trans (round_le E (relax d e) i) (relax_le d e i)
theorem round_to : ∀ (E : List Edge) (d : Nat → Int) (e : Edge), e ∈ E → round E d e.to ≤ d e.frm + e.gain
  | e' :: E, d, e, h => by
    rcases List.mem_cons.1 h with rfl | h
    · exact Int.le_trans (round_le E (relax d e) e.to) (relax_to d e)
    · have h1 := round_to E (relax d e') e h
      have h2 := relax_le d e' e.frm
      show round E (relax d e') e.to ≤ _
      omega
theorem relax_ge {D d : Nat → Int} {e : Edge} (he : D e.to ≤ D e.frm + e.gain) (h : ∀ i, D i ≤ d i) (i : Nat) : D i ≤ relax d e i := by
  unfold relax
  split
  · unfold upd; split
    · rename_i h1 h2; subst h2; have := h e.frm; omega
    · exact h i
  · exact h i
theorem round_ge {D : Nat → Int} : ∀ (E : List Edge) (d : Nat → Int), Fits E D → (∀ i, D i ≤ d i) → ∀ i, D i ≤ round E d i
  | [], _, _, h => h
  | e :: E, d, hF, h => round_ge E (relax d e) (fun x hx => hF x (List.mem_cons_of_mem _ hx)) (fun i => relax_ge (hF e List.mem_cons_self) h i)
theorem round_still {E : List Edge} {d : Nat → Int} (h : round E d = d) : Fits E d := fun e he => by
  have := round_to E d e he
  rw [h] at this
  exact this
theorem round_fits : ∀ {E : List Edge} {d : Nat → Int}, Fits E d → round E d = d
  | [], _, _ => rfl
  | e :: E, d, h => by
    have e1 : relax d e = d := by unfold relax; rw [if_neg (by have := h e List.mem_cons_self; omega)]
    show round E (relax d e) = d
    rw [e1]
    exact round_fits (fun x hx => h x (List.mem_cons_of_mem _ hx))
/-- Numbers from J on are never touched. -/
theorem round_out {J : Nat} : ∀ (E : List Edge) (d : Nat → Int), (∀ e ∈ E, e.to < J) → ∀ i, J ≤ i → round E d i = d i
  | [], _, _, _, _ => rfl
  | e :: E, d, h, i, hi => by
    show round E (relax d e) i = d i
    rw [round_out E (relax d e) (fun x hx => h x (List.mem_cons_of_mem _ hx)) i hi]
    have := h e List.mem_cons_self
    unfold relax upd
    split
    · show (if i = e.to then _ else d i) = d i; rw [if_neg (by omega)]
    · rfl
theorem rounds_out {J : Nat} {E : List Edge} (hE : ∀ e ∈ E, e.to < J) (d : Nat → Int) : ∀ r i, J ≤ i → rounds E r d i = d i
  | 0, _, _ => rfl
  | r + 1, i, hi => by show round E (rounds E r d) i = d i; rw [round_out E _ hE i hi]; exact rounds_out hE d r i hi
theorem rounds_le {E : List Edge} (d : Nat → Int) : ∀ r i, rounds E r d i ≤ d i
  | 0, _ => Int.le_refl _
  | r + 1, i => Int.le_trans (round_le E _ i) (rounds_le d r i)
theorem rounds_ge {E : List Edge} {D d : Nat → Int} (hF : Fits E D) (h : ∀ i, D i ≤ d i) : ∀ r i, D i ≤ rounds E r d i
  | 0 => h
  | r + 1 => round_ge E _ hF (rounds_ge hF h r)
theorem rounds_still {E : List Edge} {d : Nat → Int} {r : Nat} (h : round E (rounds E r d) = rounds E r d) : ∀ k, rounds E (r + k) d = rounds E r d
  | 0 => rfl
  | k + 1 => by show round E (rounds E (r + k) d) = _; rw [rounds_still h k, h]

/-- What is missing below J. -/
def lack (q d : Nat → Int) : Nat → Nat | 0 => 0 | J + 1 => lack q d J + (d J - q J).toNat
theorem lack_le {q q' d : Nat → Int} : ∀ {J : Nat}, (∀ i, i < J → q i ≤ q' i) → lack q' d J ≤ lack q d J
  | 0, _ => Nat.le_refl _
  | J + 1, h => by
    have := lack_le (d := d) (J := J) (fun i hi => h i (by omega))
    have := h J (by omega)
    unfold lack; omega
theorem lack_lt {q q' d : Nat → Int} : ∀ {J v : Nat}, v < J → (∀ i, i < J → q i ≤ q' i) → q v < q' v → q' v ≤ d v → lack q' d J < lack q d J
  | J + 1, v, hv, h, h1, h2 => by
    by_cases e : v = J
    · subst e
      have := lack_le (d := d) (J := v) (fun i hi => h i (by omega))
      unfold lack; omega
    · have := lack_lt (d := d) (J := J) (v := v) (by omega) (fun i hi => h i (by omega)) h1 h2
      have := h J (by omega)
      unfold lack; omega
theorem least_ex {P : Nat → Prop} : (∃ n, P n) → ∃ n, P n ∧ ∀ m, P m → n ≤ m := by
  rintro ⟨n, hn⟩
  induction n using Nat.strongRecOn with
  | ind n ih =>
    by_cases h : ∃ m, m < n ∧ P m
    · obtain ⟨m, hm, hp⟩ := h; exact ih m hm hp
    · exact ⟨n, hn, fun m hm => Nat.le_of_not_lt fun hlt => h ⟨m, hlt, hm⟩⟩
/-- Of all numbers that fit and are at most d there are greatest ones. -/
theorem greatest {E : List Edge} {J : Nat} {d p : Nat → Int} (hE : ∀ e ∈ E, e.frm < J ∧ e.to < J) (hF : Fits E p) (hp : ∀ i, p i ≤ d i) :
    ∃ D : Nat → Int, Fits E D ∧ (∀ i, D i ≤ d i) ∧ ∀ S : Nat → Bool, (∃ v, v < J ∧ S v = false) → (∀ v, v < J → S v = false → D v < d v) → ∃ e ∈ E, S e.frm = true ∧ S e.to = false ∧ D e.to = D e.frm + e.gain := by
  have hex : ∃ n, ∃ q : Nat → Int, Fits E q ∧ (∀ i, q i ≤ d i) ∧ lack q d J = n := ⟨_, p, hF, hp, rfl⟩
  obtain ⟨n0, ⟨D, h1, h2, h3⟩, hmin⟩ := least_ex hex
  refine ⟨D, h1, h2, fun S ⟨v, hv, hSv⟩ hlt => ?_⟩
  refine Classical.byContradiction fun hno => ?_
  let q : Nat → Int := fun i => if i < J ∧ S i = false then D i + 1 else D i
  have hq : Fits E q := by
    intro e he
    have hD := h1 e he
    have hb := hE e he
    show (if e.to < J ∧ S e.to = false then D e.to + 1 else D e.to) ≤ (if e.frm < J ∧ S e.frm = false then D e.frm + 1 else D e.frm) + e.gain
    cases ht : S e.to <;> cases hf : S e.frm
    · rw [if_pos ⟨hb.2, rfl⟩, if_pos ⟨hb.1, rfl⟩]; omega
    · rw [if_pos ⟨hb.2, rfl⟩, if_neg (by simp)]
      have : D e.to ≠ D e.frm + e.gain := fun h => hno ⟨e, he, hf, ht, h⟩
      omega
    · rw [if_neg (by simp), if_pos ⟨hb.1, rfl⟩]; omega
    · rw [if_neg (by simp), if_neg (by simp)]; exact hD
  have hle : ∀ i, q i ≤ d i := by
    intro i
    show (if i < J ∧ S i = false then D i + 1 else D i) ≤ d i
    split
    · rename_i h; have := hlt i h.1 h.2; omega
    · exact h2 i
  have hl : lack q d J < lack D d J := by
    refine lack_lt hv (fun i _ => ?_) ?_ (hle v)
    · show D i ≤ (if i < J ∧ S i = false then D i + 1 else D i); split <;> omega
    · show D v < (if v < J ∧ S v = false then D v + 1 else D v); rw [if_pos ⟨hv, hSv⟩]; omega
  have := hmin _ ⟨q, hq, hle, rfl⟩
  omega

def cnt (S : Nat → Bool) : Nat → Nat | 0 => 0 | J + 1 => cnt S J + (if S J then 1 else 0)
theorem cnt_le {S : Nat → Bool} : ∀ J, cnt S J ≤ J
  | 0 => Nat.le_refl _
  | J + 1 => by have := @cnt_le S J; unfold cnt; split <;> omega
theorem cnt_mono {S T : Nat → Bool} (h : ∀ i, S i = true → T i = true) : ∀ J, cnt S J ≤ cnt T J
  | 0 => Nat.le_refl _
  | J + 1 => by
    have := cnt_mono h J
    unfold cnt
    cases hs : S J
    · simp; omega
    · rw [h J hs]; simp; omega
theorem cnt_lt {S T : Nat → Bool} (h : ∀ i, S i = true → T i = true) : ∀ {J v : Nat}, v < J → S v = false → T v = true → cnt S J < cnt T J
  | J + 1, v, hv, h1, h2 => by
    by_cases e : v = J
    · subst e
      have := cnt_mono h v
      unfold cnt
      rw [h1, h2]; simp; omega
    · have := cnt_lt h (J := J) (v := v) (by omega) h1 h2
      unfold cnt
      cases hs : S J
      · simp; omega
      · rw [h J hs]; simp; omega
theorem cnt_all {S : Nat → Bool} : ∀ {J : Nat}, J ≤ cnt S J → ∀ i, i < J → S i = true
  | J + 1, h, i, hi => by
    have hc := @cnt_le S J
    unfold cnt at h
    cases hs : S J
    · rw [hs] at h; simp at h; omega
    · rw [hs] at h; simp at h
      by_cases e : i = J
      · subst e; exact hs
      · exact cnt_all (J := J) (by omega) i (by omega)
theorem cnt_none {S : Nat → Bool} : ∀ {J : Nat}, cnt S J < J → ∃ v, v < J ∧ S v = false
  | J + 1, h => by
    unfold cnt at h
    cases hs : S J
    · exact ⟨J, by omega, hs⟩
    · rw [hs] at h; simp at h
      obtain ⟨v, hv, h1⟩ := cnt_none (J := J) (by omega)
      exact ⟨v, by omega, h1⟩
/-- Where some numbers fit, J - 1 rounds are enough: a further one turns nothing. -/
theorem enough {E : List Edge} {J : Nat} {d p : Nat → Int} (hE : ∀ e ∈ E, e.frm < J ∧ e.to < J) (hF : Fits E p) (hp : ∀ i, p i ≤ d i) (hJ : 0 < J) : round E (rounds E (J - 1) d) = rounds E (J - 1) d := by
  obtain ⟨D, h1, h2, h3⟩ := greatest hE hF hp
  let S : Nat → Nat → Bool := fun r i => decide (rounds E r d i = D i)
  have hge := rounds_ge h1 h2
  have hsub : ∀ r i, S r i = true → S (r + 1) i = true := by
    intro r i h
    have h := of_decide_eq_true h
    refine decide_eq_true ?_
    have a := round_le E (rounds E r d) i
    have b := hge (r + 1) i
    show round E (rounds E r d) i = D i
    have b' : D i ≤ round E (rounds E r d) i := b
    omega
  have hlow : ∀ r v, S r v = false → D v < d v := by
    intro r v h
    have h := of_decide_eq_false h
    have a := hge r v
    have b := rounds_le (E := E) d r v
    omega
  have hcnt : ∀ r, r < J → r + 1 ≤ cnt (S r) J := by
    intro r
    induction r with
    | zero =>
      intro _
      by_cases hc : cnt (S 0) J = 0
      · exfalso
        have hall : ∀ v, v < J → S 0 v = false := fun v hv => by
          cases hs : S 0 v
          · rfl
          · have := cnt_lt (S := fun _ => false) (T := S 0) (by simp) hv rfl hs
            omega
        obtain ⟨e, he, ha, _⟩ := h3 (S 0) ⟨0, hJ, hall 0 hJ⟩ (fun v _ hs => hlow 0 v hs)
        rw [hall e.frm (hE e he).1] at ha
        cases ha
      · omega
    | succ r ih =>
      intro hr
      have hi := ih (by omega)
      by_cases hall : J ≤ cnt (S r) J
      · have := cnt_mono (hsub r) J
        omega
      · obtain ⟨v, hv, hs⟩ := cnt_none (S := S r) (J := J) (by omega)
        obtain ⟨e, he, ha, hb, hc⟩ := h3 (S r) ⟨v, hv, hs⟩ (fun v _ hs => hlow r v hs)
        have hx : S (r + 1) e.to = true := by
          refine decide_eq_true ?_
          have a := round_to E (rounds E r d) e he
          have a' := of_decide_eq_true ha
          have b := hge (r + 1) e.to
          have b' : D e.to ≤ round E (rounds E r d) e.to := b
          show round E (rounds E r d) e.to = D e.to
          omega
        have := cnt_lt (hsub r) (hE e he).2 hb hx
        omega
  have hall := cnt_all (S := S (J - 1)) (J := J) (by have := hcnt (J - 1) (by omega); omega)
  refine round_fits fun e he => ?_
  have a := of_decide_eq_true (hall e.frm (hE e he).1)
  have b := of_decide_eq_true (hall e.to (hE e he).2)
  have := h1 e he
  omega
end Go.Proofs.Ytlgagnbnjfneaaa.Rx
