/- Potentials along airways, plainly: the rounds in which both programs lower them, what they keep, and when they end. No program in sight. No conditions but those that each theorem names. -/
import Derived.Test.YtlgagnbnjfneaaaRelax
import Derived.Test.YtlgagnbnjfneaaaAirs
namespace Go.Proofs.Ytlgagnbnjfneaaa
open Pl
/-- The number at 't' is lowered to that at 'f' and the gain, if it is more. -/
def rlx (f t : Nat) (g : Int) (d : List Int) : List Int := if d.getD f 0 + g < d.getD t 0 then d.set t (d.getD f 0 + g) else d
def frs (f t : Nat) (g : Int) (d : List Int) : Bool := decide (d.getD f 0 + g < d.getD t 0)
theorem rlx_len (f t : Nat) (g : Int) (d : List Int) : (rlx f t g d).length = d.length := by unfold rlx; split <;> simp
theorem getD_set (d : List Int) (t i : Nat) (x : Int) (ht : t < d.length) : (d.set t x).getD i 0 = if i = t then x else d.getD i 0 := by
  by_cases e : i = t
  · subst e; simp [List.getD, ht]
  · rw [if_neg e]; simp only [List.getD, List.getElem?_set_ne (Ne.symm e)]
theorem rlx_yes {f t : Nat} {g : Int} {d : List Int} (h : d.getD f 0 + g < d.getD t 0) : rlx f t g d = d.set t (d.getD f 0 + g) := if_pos h
theorem rlx_no {f t : Nat} {g : Int} {d : List Int} (h : ¬ d.getD f 0 + g < d.getD t 0) : rlx f t g d = d := if_neg h
theorem rlx_fn {f t : Nat} {g : Int} {d : List Int} (ht : t < d.length) : (fun i => (rlx f t g d).getD i 0) = Rx.relax (fun i => d.getD i 0) ⟨f, t, g⟩ := by
  funext i
  unfold rlx Rx.relax Rx.upd
  by_cases h : d.getD f 0 + g < d.getD t 0
  · rw [if_pos h, if_pos h, getD_set _ _ _ _ ht]
  · rw [if_neg h, if_neg h]
/-- What holds of all numbers behind c steps. -/
def Bd (c : Nat) (d : List Int) : Prop := ∀ i, -((c : Int) * 2000000) ≤ d.getD i 0 ∧ d.getD i 0 ≤ 0
theorem Bd.more {c c' : Nat} {d : List Int} (h : Bd c d) (hc : c ≤ c') : Bd c' d := fun i => by have := h i; omega
theorem Bd.rlx {c : Nat} {d : List Int} {f t : Nat} {g : Int} (h : Bd c d) (hg : -2000000 ≤ g ∧ g ≤ 2000000) (ht : t < d.length) : Bd (c + 1) (rlx f t g d) := by
  intro i
  have h1 := h i
  have h2 := h f
  have h3 := h t
  unfold Go.Proofs.Ytlgagnbnjfneaaa.rlx
  split
  · rw [getD_set _ _ _ _ ht]
    split <;> omega
  · omega
theorem Bd.zeros (n : Nat) : Bd 0 (List.replicate n 0) := fun i => by
  simp only [List.getD, List.getElem?_replicate]
  split <;> simp
section
variable (xs : List Aw) (gs : List Int) (rs : List Bool)
def aF (k : Nat) : Nat := (xs.getD k aNone).f.toNat
def aT (k : Nat) : Nat := (xs.getD k aNone).t.toNat
def st1 (k : Nat) (d : List Int) : List Int := rlx (aF xs k) (aT xs k) (gs.getD k 0) d
def st2 (k : Nat) (d : List Int) : List Int := if rs.getD k false then d else rlx (aT xs k) (aF xs k) (-(gs.getD k 0)) d
def fr1 (k : Nat) (d : List Int) : Bool := frs (aF xs k) (aT xs k) (gs.getD k 0) d
def fr2 (k : Nat) (d : List Int) : Bool := if rs.getD k false then false else frs (aT xs k) (aF xs k) (-(gs.getD k 0)) d
/-- The first n airways, one behind the other; whether one of them lowered a number. -/
def rnd : Nat → List Int → List Int | 0, d => d | k + 1, d => st2 xs gs rs k (st1 xs gs k (rnd k d))
def mvd : Nat → List Int → Bool | 0, _ => false | k + 1, d => (mvd k d || fr1 xs gs k (rnd xs gs rs k d)) || fr2 xs gs rs k (st1 xs gs k (rnd xs gs rs k d))
def fitGo (n : Nat) : Nat → List Int → Option (List Int) | 0, _ => none | r + 1, d => if mvd xs gs rs n d then fitGo n r (rnd xs gs rs n d) else some (rnd xs gs rs n d)
def fitF (J : Int) : Option (List Int) := fitGo xs gs rs xs.length (J.toNat + 1) (List.replicate J.toNat 0)
variable {xs gs rs}
theorem st1_len (k : Nat) (d : List Int) : (st1 xs gs k d).length = d.length := rlx_len _ _ _ _
theorem st2_len (k : Nat) (d : List Int) : (st2 xs gs rs k d).length = d.length := by unfold st2; split; rfl; exact rlx_len _ _ _ _
theorem rnd_len : ∀ (k : Nat) (d : List Int), (rnd xs gs rs k d).length = d.length
  | 0, _ => rfl
  | k + 1, d => by unfold rnd; rw [st2_len, st1_len]; exact rnd_len k d
/-- All airways end below J. -/
def Ends (xs : List Aw) (J : Nat) : Prop := ∀ k, k < xs.length → aF xs k < J ∧ aT xs k < J
def Gd (n : Nat) (gs : List Int) : Prop := ∀ k, k < n → -2000000 ≤ gs.getD k 0 ∧ gs.getD k 0 ≤ 2000000
theorem Bd.st1 {c k : Nat} {d : List Int} {J : Nat} (h : Bd c d) (he : Ends xs J) (hg : Gd xs.length gs) (hd : d.length = J) (hk : k < xs.length) : Bd (c + 1) (st1 xs gs k d) :=
  Bd.rlx h (hg k hk) (by rw [hd]; exact (he k hk).2)
theorem Bd.st2 {c k : Nat} {d : List Int} {J : Nat} (h : Bd c d) (he : Ends xs J) (hg : Gd xs.length gs) (hd : d.length = J) (hk : k < xs.length) : Bd (c + 1) (st2 xs gs rs k d) := by
  unfold Go.Proofs.Ytlgagnbnjfneaaa.st2
  split
  · exact h.more (by omega)
  · exact Bd.rlx h (by have := hg k hk; omega) (by rw [hd]; exact (he k hk).1)
theorem Bd.rnd {c : Nat} {d : List Int} {J : Nat} (h : Bd c d) (he : Ends xs J) (hg : Gd xs.length gs) (hd : d.length = J) : ∀ k, k ≤ xs.length → Bd (c + 2 * k) (rnd xs gs rs k d)
  | 0, _ => h
  | k + 1, hk => by
    have ih := Bd.rnd h he hg hd k (by omega)
    have l := rnd_len (xs := xs) (gs := gs) (rs := rs) k d
    have a := ih.st1 he hg (l.trans hd) (k := k) (by omega)
    have b := a.st2 (rs := rs) he hg ((st1_len _ _).trans (l.trans hd)) (k := k) (by omega)
    exact b.more (by omega)
theorem mvd_no : ∀ {k : Nat} {d : List Int}, mvd xs gs rs k d = false → rnd xs gs rs k d = d
  | 0, _, _ => rfl
  | k + 1, d, h => by
    simp only [mvd, Bool.or_eq_false_iff] at h
    obtain ⟨⟨h1, h2⟩, h3⟩ := h
    have e := mvd_no h1
    unfold rnd
    rw [e] at h2 h3 ⊢
    have e1 : st1 xs gs k d = d := rlx_no (of_decide_eq_false h2)
    rw [e1] at h3 ⊢
    unfold st2
    unfold fr2 at h3
    split
    · rfl
    · rename_i hr
      rw [if_neg hr] at h3
      exact rlx_no (of_decide_eq_false h3)
/-! ### The edges that these are -/
variable (xs gs rs) in
def edg (k : Nat) : List Rx.Edge := ⟨aF xs k, aT xs k, gs.getD k 0⟩ :: (if rs.getD k false then [] else [⟨aT xs k, aF xs k, -(gs.getD k 0)⟩])
variable (xs gs rs) in
def edgs (n : Nat) : List Rx.Edge := (List.range n).flatMap (edg xs gs rs)
theorem edgs_succ (n : Nat) : edgs xs gs rs (n + 1) = edgs xs gs rs n ++ edg xs gs rs n := by unfold edgs; rw [List.range_succ, List.flatMap_append]; simp
theorem edgs_mem {n : Nat} {e : Rx.Edge} : e ∈ edgs xs gs rs n ↔ ∃ k, k < n ∧ e ∈ edg xs gs rs k := by
  unfold edgs
  rw [List.mem_flatMap]
  exact ⟨fun ⟨k, hk, h⟩ => ⟨k, List.mem_range.1 hk, h⟩, fun ⟨k, hk, h⟩ => ⟨k, List.mem_range.2 hk, h⟩⟩
abbrev fnOf (d : List Int) : Nat → Int := fun i => d.getD i 0
theorem rnd_fn {d : List Int} {J : Nat} (he : Ends xs J) (hd : d.length = J) : ∀ n, n ≤ xs.length → fnOf (rnd xs gs rs n d) = Rx.round (edgs xs gs rs n) (fnOf d)
  | 0, _ => rfl
  | n + 1, hn => by
    have ih := rnd_fn he hd n (by omega)
    have l := rnd_len (xs := xs) (gs := gs) (rs := rs) n d
    have hk := he n (by omega)
    rw [edgs_succ]
    unfold Rx.round at *
    rw [List.foldl_append, ← ih]
    have e1 : fnOf (st1 xs gs n (rnd xs gs rs n d)) = Rx.relax (fnOf (rnd xs gs rs n d)) ⟨aF xs n, aT xs n, gs.getD n 0⟩ := rlx_fn (by rw [l, hd]; exact hk.2)
    have e2 : fnOf (rnd xs gs rs (n + 1) d) = fnOf (st2 xs gs rs n (st1 xs gs n (rnd xs gs rs n d))) := rfl
    rw [e2]
    unfold edg
    unfold st2
    cases hr : rs.getD n false
    · simp only [List.foldl_cons, List.foldl_nil, Bool.false_eq_true, if_false]
      rw [← e1]
      exact rlx_fn (by rw [st1_len, l, hd]; exact hk.1)
    · simp only [if_true, List.foldl_cons, List.foldl_nil]
      exact e1
theorem rlx_lt {f t : Nat} {g : Int} {d : List Int} (ht : t < d.length) (h : frs f t g d = true) : (rlx f t g d).getD t 0 < d.getD t 0 := by
  have h := of_decide_eq_true h
  rw [rlx_yes h, getD_set _ _ _ _ ht, if_pos rfl]
  exact h
theorem rlx_le (f t : Nat) (g : Int) (d : List Int) (ht : t < d.length) (i : Nat) : (rlx f t g d).getD i 0 ≤ d.getD i 0 := by
  have := congrFun (rlx_fn (f := f) (g := g) ht) i
  rw [this]
  exact Rx.relax_le _ _ _
theorem rnd_le {d : List Int} {J : Nat} (he : Ends xs J) (hd : d.length = J) {n : Nat} (hn : n ≤ xs.length) (i : Nat) : (rnd xs gs rs n d).getD i 0 ≤ d.getD i 0 := by
  have := congrFun (rnd_fn (gs := gs) (rs := rs) he hd n hn) i
  show fnOf (rnd xs gs rs n d) i ≤ _
  rw [this]
  exact Rx.round_le _ _ _
/-- A round that lowered a number did not give the same list. -/
theorem mvd_yes {d : List Int} {J : Nat} (he : Ends xs J) (hd : d.length = J) : ∀ {n : Nat}, n ≤ xs.length → mvd xs gs rs n d = true → ∃ i, (rnd xs gs rs n d).getD i 0 < d.getD i 0
  | 0, _, h => by cases h
  | n + 1, hn, h => by
    have l := rnd_len (xs := xs) (gs := gs) (rs := rs) n d
    have hk := he n (by omega)
    have hle := rnd_le (gs := gs) (rs := rs) he hd (n := n) (by omega)
    have h1 : ∀ i, (st1 xs gs n (rnd xs gs rs n d)).getD i 0 ≤ (rnd xs gs rs n d).getD i 0 := rlx_le _ _ _ _ (by rw [l, hd]; exact hk.2)
    have h2 : ∀ i, (rnd xs gs rs (n + 1) d).getD i 0 ≤ (st1 xs gs n (rnd xs gs rs n d)).getD i 0 := by
      intro i
      show (st2 xs gs rs n (st1 xs gs n (rnd xs gs rs n d))).getD i 0 ≤ _
      unfold st2
      split
      · exact Int.le_refl _
      · exact rlx_le _ _ _ _ (by rw [st1_len, l, hd]; exact hk.1) i
    simp only [mvd, Bool.or_eq_true] at h
    rcases h with (h | h) | h
    · obtain ⟨i, hi⟩ := mvd_yes he hd (by omega) h
      exact ⟨i, by have := h1 i; have := h2 i; omega⟩
    · have := rlx_lt (by rw [l, hd]; exact hk.2) h
      exact ⟨aT xs n, by have a := h2 (aT xs n); have b := hle (aT xs n); unfold st1 at a; omega⟩
    · unfold fr2 at h
      cases hr : rs.getD n false
      · rw [hr] at h
        have h : frs (aT xs n) (aF xs n) (-(gs.getD n 0)) (st1 xs gs n (rnd xs gs rs n d)) = true := by simpa using h
        have := rlx_lt (by rw [st1_len, l, hd]; exact hk.1) h
        refine ⟨aF xs n, ?_⟩
        have a := h1 (aF xs n)
        have b := hle (aF xs n)
        show (st2 xs gs rs n (st1 xs gs n (rnd xs gs rs n d))).getD (aF xs n) 0 < _
        unfold st2
        rw [hr]
        simp only [Bool.false_eq_true, if_false]
        omega
      · rw [hr] at h; simp at h
/-- Numbers fit at all, at most 0. -/
def Can (xs : List Aw) (gs : List Int) (rs : List Bool) : Prop := ∃ p : Nat → Int, Rx.Fits (edgs xs gs rs xs.length) p ∧ ∀ i, p i ≤ 0
theorem fitGo_some {d' : List Int} {J : Nat} (he : Ends xs J) : ∀ {r : Nat} {d : List Int}, d.length = J → fitGo xs gs rs xs.length r d = some d' → Rx.Fits (edgs xs gs rs xs.length) (fnOf d') ∧ ∀ i, d'.getD i 0 ≤ d.getD i 0
  | 0, _, _, h => by cases h
  | r + 1, d, hd, h => by
    unfold fitGo at h
    cases hm : mvd xs gs rs xs.length d
    · rw [hm] at h
      have e := mvd_no hm
      have h : rnd xs gs rs xs.length d = d' := by simpa using h
      rw [e] at h
      subst h
      refine ⟨?_, fun i => Int.le_refl _⟩
      have := rnd_fn (gs := gs) (rs := rs) he hd xs.length (Nat.le_refl _)
      rw [e] at this
      exact Rx.round_still this.symm
    · rw [hm] at h
      simp only [if_true] at h
      obtain ⟨a, b⟩ := fitGo_some he (d := rnd xs gs rs xs.length d) ((rnd_len _ _).trans hd) h
      exact ⟨a, fun i => Int.le_trans (b i) (rnd_le he hd (Nat.le_refl _) i)⟩
theorem fitGo_end {J : Nat} (he : Ends xs J) : ∀ (k r : Nat) {d : List Int}, d.length = J → k < r → Rx.round (edgs xs gs rs xs.length) (Rx.rounds (edgs xs gs rs xs.length) k (fnOf d)) = Rx.rounds (edgs xs gs rs xs.length) k (fnOf d) → ∃ d', fitGo xs gs rs xs.length r d = some d'
  | k, 0, _, _, h, _ => by omega
  | 0, r + 1, d, hd, _, h => by
    unfold fitGo
    cases hm : mvd xs gs rs xs.length d
    · exact ⟨rnd xs gs rs xs.length d, rfl⟩
    · exfalso
      obtain ⟨i, hi⟩ := mvd_yes he hd (Nat.le_refl _) hm
      have e := congrFun (rnd_fn (gs := gs) (rs := rs) he hd xs.length (Nat.le_refl _)) i
      have h' := congrFun h i
      have h'' : Rx.round (edgs xs gs rs xs.length) (fnOf d) i = fnOf d i := h'
      rw [h''] at e
      have e : (rnd xs gs rs xs.length d).getD i 0 = d.getD i 0 := e
      omega
  | k + 1, r + 1, d, hd, hk, h => by
    unfold fitGo
    cases hm : mvd xs gs rs xs.length d
    · exact ⟨rnd xs gs rs xs.length d, rfl⟩
    · simp only [if_true]
      refine fitGo_end he k r ((rnd_len _ _).trans hd) (by omega) ?_
      rw [rnd_fn (gs := gs) (rs := rs) he hd xs.length (Nat.le_refl _)]
      have comm : ∀ q (f : Nat → Int), Rx.rounds (edgs xs gs rs xs.length) q (Rx.round (edgs xs gs rs xs.length) f) = Rx.rounds (edgs xs gs rs xs.length) (q + 1) f := by
        intro q f
        induction q with
        | zero => rfl
        | succ q ih => show Rx.round _ (Rx.rounds _ q (Rx.round _ f)) = _; rw [ih]; rfl
      rw [comm]
      exact h
/-- The rounds end well just if some numbers fit. -/
theorem fitF_iff {J : Int} (hJ : 1 ≤ J) (he : Ends xs J.toNat) : (fitF xs gs rs J).isSome = true ↔ Can xs gs rs := by
  have hd : (List.replicate J.toNat (0 : Int)).length = J.toNat := by simp
  have hz : fnOf (List.replicate J.toNat (0 : Int)) = fun _ => 0 := by
    funext i
    simp only [fnOf, List.getD, List.getElem?_replicate]
    split <;> rfl
  constructor
  · intro h
    obtain ⟨d', h⟩ := Option.isSome_iff_exists.1 h
    obtain ⟨a, b⟩ := fitGo_some he hd h
    exact ⟨_, a, fun i => by have := b i; have e := congrFun hz i; simp only [fnOf] at e ⊢; omega⟩
  · rintro ⟨p, hp, h0⟩
    have hE : ∀ e ∈ edgs xs gs rs xs.length, e.frm < J.toNat ∧ e.to < J.toNat := by
      intro e hm
      obtain ⟨k, hk, hm⟩ := edgs_mem.1 hm
      have := he k hk
      unfold edg at hm
      rcases List.mem_cons.1 hm with rfl | hm
      · exact this
      · split at hm
        · cases hm
        · obtain rfl := List.mem_singleton.1 hm
          exact ⟨this.2, this.1⟩
    have hen := Rx.enough (d := fnOf (List.replicate J.toNat (0 : Int))) hE hp (fun i => by rw [hz]; exact h0 i) (by omega)
    obtain ⟨d', h⟩ := fitGo_end (gs := gs) (rs := rs) he (J.toNat - 1) (J.toNat + 1) hd (by omega) hen
    exact Option.isSome_iff_exists.2 ⟨d', h⟩
/-- More push in an airway that may be regulated: what fits fits the more. -/
theorem Can.more {a : Nat} (ha : rs.getD a false = true) {gs' : List Int} (hle : ∀ k, gs.getD k 0 ≤ gs'.getD k 0) (heq : ∀ k, k ≠ a → gs'.getD k 0 = gs.getD k 0) (h : Can xs gs rs) : Can xs gs' rs := by
  obtain ⟨p, hp, h0⟩ := h
  refine ⟨p, fun e hm => ?_, h0⟩
  obtain ⟨k, hk, hm⟩ := edgs_mem.1 hm
  unfold edg at hm
  rcases List.mem_cons.1 hm with rfl | hm
  · have := hp ⟨aF xs k, aT xs k, gs.getD k 0⟩ (edgs_mem.2 ⟨k, hk, by unfold edg; exact List.mem_cons_self⟩)
    have h2 := hle k
    simp only at this ⊢
    omega
  · split at hm
    · cases hm
    · rename_i hr
      obtain rfl := List.mem_singleton.1 hm
      have hka : k ≠ a := fun e => hr (by rw [e]; exact ha)
      rw [heq k hka]
      refine hp _ (edgs_mem.2 ⟨k, hk, ?_⟩)
      unfold edg
      rw [if_neg hr]
      exact List.mem_cons_of_mem _ List.mem_cons_self
end
end Go.Proofs.Ytlgagnbnjfneaaa
