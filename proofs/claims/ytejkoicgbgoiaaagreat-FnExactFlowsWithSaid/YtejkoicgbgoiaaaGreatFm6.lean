/- Proved here: the parts NetP, RowS, NetA, Bal, NetB, NetC of the row's proof, joined by a program. Conditions: as each part says. -/
import Derived.Test.YtejkoicgbgoiaaaGreatFm5
import Derived.BigQuiet
/- Networks, with no program in sight: what some edges join (labels of parts), the distance to a vertex (level by level), a search by a queue, and the walk that follows falling distances. No conditions beyond those that each lemma names. -/
namespace Go.Proofs.YtejkoicgbgoiaaaGreat.Pl
structure Ed where
  k : Int
  f : Int
  t : Int
def eNone : Ed := ⟨0, 0, 0⟩
/-- The other end of an edge. -/
def oth (e : Ed) (u : Int) : Option Int := if u = e.f then some e.t else if u = e.t then some e.f else none
theorem oth_symm {e : Ed} {u v : Int} (h : oth e u = some v) : oth e v = some u := by
  unfold oth at h ⊢
  by_cases h1 : u = e.f
  · rw [if_pos h1] at h; injection h with h
    by_cases h2 : v = e.f
    · rw [if_pos h2]; congr 1; omega
    · rw [if_neg h2, if_pos h.symm, h1]
  · rw [if_neg h1] at h
    by_cases h2 : u = e.t
    · rw [if_pos h2] at h; injection h with h
      rw [if_pos h.symm, h2]
    · rw [if_neg h2] at h; cases h
theorem oth_f (e : Ed) : oth e e.f = some e.t := by unfold oth; rw [if_pos rfl]
theorem oth_cases {e : Ed} {u v : Int} (h : oth e u = some v) : (u = e.f ∧ v = e.t) ∨ (u ≠ e.f ∧ u = e.t ∧ v = e.f) := by
  unfold oth at h
  by_cases h1 : u = e.f
  · rw [if_pos h1] at h; injection h with h; exact .inl ⟨h1, h.symm⟩
  · rw [if_neg h1] at h
    by_cases h2 : u = e.t
    · rw [if_pos h2] at h; injection h with h; exact .inr ⟨h1, h2, h.symm⟩
    · rw [if_neg h2] at h; cases h
/-- All ends are vertices below N. -/
def EdIn (N : Nat) (G : List Ed) : Prop := ∀ i, i < G.length → (0 ≤ (G.getD i eNone).f ∧ (G.getD i eNone).f < N) ∧ (0 ≤ (G.getD i eNone).t ∧ (G.getD i eNone).t < N)
theorem getD_in {α : Type} {l : List α} {i : Nat} {d : α} (h : i < l.length) : l.getD i d = l[i] := by simp [List.getD, h]
theorem mem_getD {α : Type} {l : List α} {i : Nat} {d : α} (h : i < l.length) : l.getD i d ∈ l := by rw [getD_in h]; exact List.getElem_mem h
theorem getD_of_mem {α : Type} {l : List α} {x : α} (d : α) (h : x ∈ l) : ∃ i, i < l.length ∧ l.getD i d = x := by
  obtain ⟨i, hi, e⟩ := List.getElem_of_mem h
  exact ⟨i, hi, by rw [getD_in hi, e]⟩
theorem getD_map {α β : Type} {l : List α} (g : α → β) {i : Nat} (d : α) (e : β) (h : i < l.length) : (l.map g).getD i e = g (l.getD i d) := by
  simp [List.getD, h]
/-! ### Labels of parts -/
def upto (N : Nat) : List Int := (List.range N).map fun i : Nat => (i : Int)
theorem upto_length (N : Nat) : (upto N).length = N := by simp [upto]
theorem upto_get {N i : Nat} (h : i < N) : (upto N).getD i 0 = i := by simp [upto, List.getD, h]
def relab (P : List Int) (e : Ed) : List Int := P.map fun x => if x = mx (P.getD e.f.toNat 0) (P.getD e.t.toNat 0) then mn (P.getD e.f.toNat 0) (P.getD e.t.toNat 0) else x
def partsK (N : Nat) (G : List Ed) : Nat → List Int | 0 => upto N | n + 1 => relab (partsK N G n) (G.getD n eNone)
theorem partsK_length (N : Nat) (G : List Ed) : ∀ n, (partsK N G n).length = N
  | 0 => upto_length N
  | n + 1 => by unfold partsK relab; rw [List.length_map]; exact partsK_length N G n
def labK (N : Nat) (G : List Ed) (n : Nat) (v : Int) : Int := (partsK N G n).getD v.toNat 0
theorem labK_zero {N : Nat} {G : List Ed} {v : Int} (h1 : 0 ≤ v) (h2 : v < N) : labK N G 0 v = v := by
  unfold labK partsK; rw [upto_get (by omega)]; omega
theorem labK_succ {N : Nat} {G : List Ed} {n : Nat} {v : Int} (h1 : 0 ≤ v) (h2 : v < N) :
    labK N G (n + 1) v = if labK N G n v = mx (labK N G n (G.getD n eNone).f) (labK N G n (G.getD n eNone).t) then mn (labK N G n (G.getD n eNone).f) (labK N G n (G.getD n eNone).t) else labK N G n v := by
  have e : labK N G (n + 1) v = (relab (partsK N G n) (G.getD n eNone)).getD v.toNat 0 := rfl
  rw [e]
  unfold relab
  rw [getD_map _ (0 : Int) _ (by rw [partsK_length]; omega)]
  rfl
theorem labK_edge {N : Nat} {G : List Ed} (hG : EdIn N G) : ∀ n, n ≤ G.length → ∀ i, i < n → labK N G n (G.getD i eNone).f = labK N G n (G.getD i eNone).t
  | 0, _, i, h => by omega
  | n + 1, hn, i, h => by
    obtain ⟨⟨a1, a2⟩, b1, b2⟩ := hG i (by omega)
    rw [labK_succ a1 a2, labK_succ b1 b2]
    by_cases e : i = n
    · subst e
      generalize labK N G i (G.getD i eNone).f = p
      generalize labK N G i (G.getD i eNone).t = q
      rcases Int.lt_trichotomy p q with h | h | h
      · rw [mx_eq_right (by omega), mn_eq_left (by omega), if_neg (by omega), if_pos rfl]
      · subst h; rfl
      · rw [mx_eq_left (by omega), mn_eq_right (by omega), if_pos rfl, if_neg (by omega)]
    · rw [labK_edge hG n (by omega) i (by omega)]
theorem labK_closed {N : Nat} {G : List Ed} (hG : EdIn N G) (S : Int → Prop) : ∀ n, n ≤ G.length → (∀ i, i < n → (S (G.getD i eNone).f ↔ S (G.getD i eNone).t)) → ∀ x y : Int, 0 ≤ x → x < N → 0 ≤ y → y < N → labK N G n x = labK N G n y → (S x ↔ S y)
  | 0, _, _, x, y, x1, x2, y1, y2, h => by
    rw [labK_zero x1 x2, labK_zero y1 y2] at h
    rw [h]
  | n + 1, hn, hS, x, y, x1, x2, y1, y2, h => by
    have ih := labK_closed hG S n (by omega) (fun i hi => hS i (by omega))
    obtain ⟨⟨a1, a2⟩, b1, b2⟩ := hG n (by omega)
    have hs := hS n (by omega)
    rw [labK_succ x1 x2, labK_succ y1 y2] at h
    have key : ∀ z : Int, 0 ≤ z → z < N → (labK N G n z = mx (labK N G n (G.getD n eNone).f) (labK N G n (G.getD n eNone).t) ∨ labK N G n z = mn (labK N G n (G.getD n eNone).f) (labK N G n (G.getD n eNone).t)) → (S z ↔ S (G.getD n eNone).f) := by
      intro z z1 z2 hz
      have hz' : labK N G n z = labK N G n (G.getD n eNone).f ∨ labK N G n z = labK N G n (G.getD n eNone).t := by
        rcases hz with hz | hz
        · rcases mx_or (labK N G n (G.getD n eNone).f) (labK N G n (G.getD n eNone).t) with e | e <;> rw [e] at hz
          · exact .inl hz
          · exact .inr hz
        · rcases mn_or (labK N G n (G.getD n eNone).f) (labK N G n (G.getD n eNone).t) with e | e <;> rw [e] at hz
          · exact .inl hz
          · exact .inr hz
      rcases hz' with e | e
      · exact ih z _ z1 z2 a1 a2 e
      · exact (ih z _ z1 z2 b1 b2 e).trans hs.symm
    by_cases cx : labK N G n x = mx (labK N G n (G.getD n eNone).f) (labK N G n (G.getD n eNone).t)
    · rw [if_pos cx] at h
      by_cases cy : labK N G n y = mx (labK N G n (G.getD n eNone).f) (labK N G n (G.getD n eNone).t)
      · exact ih x y x1 x2 y1 y2 (cx.trans cy.symm)
      · rw [if_neg cy] at h
        exact (key x x1 x2 (.inl cx)).trans (key y y1 y2 (.inr h.symm)).symm
    · rw [if_neg cx] at h
      by_cases cy : labK N G n y = mx (labK N G n (G.getD n eNone).f) (labK N G n (G.getD n eNone).t)
      · rw [if_pos cy] at h
        exact (key x x1 x2 (.inr h)).trans (key y y1 y2 (.inl cy)).symm
      · rw [if_neg cy] at h
        exact ih x y x1 x2 y1 y2 h
def lab (N : Nat) (G : List Ed) (v : Int) : Int := labK N G G.length v
/-- What a search from a vertex finds: it is closed under the edges, and lies in every closed set that holds the vertex. -/
structure Fnd (N : Nat) (G : List Ed) (from_ : Int) (R : List Int) : Prop where
  start : from_ ∈ R
  rng : ∀ u ∈ R, 0 ≤ u ∧ u < N
  closed : ∀ u ∈ R, ∀ i, i < G.length → ∀ v, oth (G.getD i eNone) u = some v → v ∈ R
  least : ∀ S : Int → Prop, S from_ → (∀ u v i, S u → i < G.length → oth (G.getD i eNone) u = some v → S v) → ∀ u ∈ R, S u
theorem Fnd.lab_iff {N : Nat} {G : List Ed} {a : Int} {R : List Int} (h : Fnd N G a R) (hG : EdIn N G) {y : Int} (y1 : 0 ≤ y) (y2 : y < N) : y ∈ R ↔ lab N G a = lab N G y := by
  constructor
  · intro hy
    refine (h.least (fun u => (0 ≤ u ∧ u < N) ∧ lab N G a = lab N G u) ⟨h.rng _ h.start, rfl⟩ ?_ y hy).2
    rintro u v i ⟨hr, hl⟩ hi ho
    have he := labK_edge hG G.length (Nat.le_refl _) i hi
    obtain ⟨hf, ht⟩ := hG i hi
    rcases oth_cases ho with ⟨rfl, rfl⟩ | ⟨_, rfl, rfl⟩
    · exact ⟨ht, hl.trans he⟩
    · exact ⟨hf, hl.trans he.symm⟩
  · intro hl
    obtain ⟨a1, a2⟩ := h.rng _ h.start
    refine (labK_closed hG (fun u => u ∈ R) G.length (Nat.le_refl _) (fun i hi => ?_) a y a1 a2 y1 y2 hl).1 h.start
    constructor
    · intro hm; exact h.closed _ hm i hi _ (oth_f _)
    · intro hm; exact h.closed _ hm i hi _ (oth_symm (oth_f _))
/-! ### Distances, level by level -/
def hitB (G : List Ed) (d : Int → Int) (s v : Int) : Bool := G.any fun e => (e.f == v && d e.t == s) || (e.t == v && d e.f == s)
def dst (G : List Ed) (to : Int) : Nat → Int → Int
  | 0, v => if v = to then 0 else -1
  | s + 1, v => if 0 ≤ dst G to s v then dst G to s v else if hitB G (dst G to s) s v then (s : Int) + 1 else -1
theorem dst_or (G : List Ed) (to : Int) : ∀ s v, dst G to s v = -1 ∨ (0 ≤ dst G to s v ∧ dst G to s v ≤ s)
  | 0, v => by unfold dst; split <;> omega
  | s + 1, v => by
    have := dst_or G to s v
    unfold dst
    split
    · omega
    · split <;> omega
theorem dst_keep {G : List Ed} {to : Int} {s : Nat} {v : Int} (h : 0 ≤ dst G to s v) : ∀ j, dst G to (s + j) v = dst G to s v
  | 0 => rfl
  | j + 1 => by
    have ih := dst_keep h j
    have e : dst G to (s + (j + 1)) v = if 0 ≤ dst G to (s + j) v then dst G to (s + j) v else if hitB G (dst G to (s + j)) ((s + j : Nat) : Int) v then ((s + j : Nat) : Int) + 1 else -1 := rfl
    rw [e, if_pos (by rw [ih]; exact h), ih]
def Lv (G : List Ed) (to : Int) (d : Nat) (v : Int) : Prop := dst G to d v = d
theorem Lv.at_ {G : List Ed} {to v : Int} {d : Nat} (h : Lv G to d v) {s : Nat} (hs : d ≤ s) : dst G to s v = d := by
  obtain ⟨j, rfl⟩ : ∃ j, s = d + j := ⟨s - d, by omega⟩
  unfold Lv at h
  rw [dst_keep (by omega), h]
theorem Lv.uniq {G : List Ed} {to v : Int} {d e : Nat} (h : Lv G to d v) (k : Lv G to e v) : d = e := by
  have a := h.at_ (s := max d e) (by omega)
  have b := k.at_ (s := max d e) (by omega)
  omega
theorem Lv.of_dst {G : List Ed} {to v : Int} : ∀ {s : Nat}, 0 ≤ dst G to s v → Lv G to (dst G to s v).toNat v
  | 0, h => by
    have : dst G to 0 v = 0 := by rcases dst_or G to 0 v with e | e <;> omega
    rw [this]; unfold Lv; exact this
  | s + 1, h => by
    by_cases h0 : 0 ≤ dst G to s v
    · have e : dst G to (s + 1) v = dst G to s v := dst_keep h0 1
      rw [e]; exact Lv.of_dst h0
    · have e : dst G to (s + 1) v = if hitB G (dst G to s) s v then (s : Int) + 1 else -1 := by
        have e : dst G to (s + 1) v = if 0 ≤ dst G to s v then dst G to s v else if hitB G (dst G to s) s v then (s : Int) + 1 else -1 := rfl
        rw [e, if_neg h0]
      by_cases hh : hitB G (dst G to s) s v = true
      · rw [if_pos hh] at e
        have : (dst G to (s + 1) v).toNat = s + 1 := by omega
        rw [this]; unfold Lv; rw [e]; omega
      · rw [if_neg hh] at e; omega
theorem Lv.zero {G : List Ed} {to v : Int} : Lv G to 0 v ↔ v = to := by
  unfold Lv dst
  split
  · simp [*]
  · constructor
    · intro h; simp at h
    · intro h; contradiction
theorem hitB_iff {G : List Ed} {d : Int → Int} {s v : Int} : hitB G d s v = true ↔ ∃ i, i < G.length ∧ (((G.getD i eNone).f = v ∧ d (G.getD i eNone).t = s) ∨ ((G.getD i eNone).t = v ∧ d (G.getD i eNone).f = s)) := by
  unfold hitB
  rw [List.any_eq_true]
  constructor
  · rintro ⟨e, he, h⟩
    obtain ⟨i, hi, rfl⟩ := getD_of_mem eNone he
    refine ⟨i, hi, ?_⟩
    simpa using h
  · rintro ⟨i, hi, h⟩
    exact ⟨_, mem_getD hi, by simpa using h⟩
/-- A neighbour's level is at most one more. -/
theorem Lv.step {G : List Ed} {to u v : Int} {d : Nat} (h : Lv G to d u) {i : Nat} (hi : i < G.length) (ho : oth (G.getD i eNone) u = some v) : ∃ d', d' ≤ d + 1 ∧ Lv G to d' v := by
  by_cases h0 : 0 ≤ dst G to d v
  · have hb := dst_or G to d v
    exact ⟨_, by omega, Lv.of_dst h0⟩
  · refine ⟨d + 1, Nat.le_refl _, ?_⟩
    have e : dst G to (d + 1) v = if 0 ≤ dst G to d v then dst G to d v else if hitB G (dst G to d) d v then (d : Int) + 1 else -1 := rfl
    have hh : hitB G (dst G to d) d v = true := by
      rw [hitB_iff]
      rcases oth_cases ho with ⟨hu, hv⟩ | ⟨_, hu, hv⟩
      · exact ⟨i, hi, .inr ⟨hv.symm, by rw [← hu]; exact h⟩⟩
      · exact ⟨i, hi, .inl ⟨hv.symm, by rw [← hu]; exact h⟩⟩
    unfold Lv
    rw [e, if_neg h0, if_pos hh]
    omega
/-- A vertex of a level behind the first has a neighbour of the level ahead. -/
theorem Lv.back {G : List Ed} {to v : Int} {d : Nat} (h : Lv G to (d + 1) v) : ∃ i u, i < G.length ∧ oth (G.getD i eNone) v = some u ∧ Lv G to d u := by
  unfold Lv at h
  have e : dst G to (d + 1) v = if 0 ≤ dst G to d v then dst G to d v else if hitB G (dst G to d) d v then (d : Int) + 1 else -1 := rfl
  have hb := dst_or G to d v
  rw [e] at h
  split at h
  · omega
  · split at h
    · rename_i _ hh
      rw [hitB_iff] at hh
      obtain ⟨i, hi, ⟨hf, ht⟩ | ⟨ht, hf⟩⟩ := hh
      · exact ⟨i, _, hi, by rw [← hf]; exact oth_f _, ht⟩
      · by_cases e : (G.getD i eNone).t = (G.getD i eNone).f
        · exact ⟨i, (G.getD i eNone).t, hi, by rw [← ht, e]; rw [oth_f, e], by unfold Lv; rw [e]; exact hf⟩
        · refine ⟨i, _, hi, ?_, hf⟩
          rw [← ht]; unfold oth; rw [if_neg e, if_pos rfl]
    · omega
/-! ### One pass of the level search over the edges, in place -/
def dstP (G : List Ed) (to : Int) (s i : Nat) (v : Int) : Int := if 0 ≤ dst G to s v then dst G to s v else if hitB (G.take i) (dst G to s) s v then (s : Int) + 1 else -1
theorem dstP_zero (G : List Ed) (to : Int) (s : Nat) (v : Int) : dstP G to s 0 v = dst G to s v := by
  unfold dstP hitB
  have := dst_or G to s v
  split
  · rfl
  · simp; omega
theorem dstP_all (G : List Ed) (to : Int) (s : Nat) (v : Int) : dstP G to s G.length v = dst G to (s + 1) v := by
  unfold dstP; rw [List.take_length]; rfl
theorem dstP_eq_s (G : List Ed) (to : Int) (s i : Nat) (v : Int) : dstP G to s i v = s ↔ dst G to s v = s := by
  have := dst_or G to s v
  unfold dstP
  split
  · exact Iff.rfl
  · split <;> omega
theorem hitB_take {G : List Ed} {d : Int → Int} {s v : Int} {i : Nat} (hi : i < G.length) : hitB (G.take (i + 1)) d s v = (hitB (G.take i) d s v || (((G.getD i eNone).f == v && d (G.getD i eNone).t == s) || ((G.getD i eNone).t == v && d (G.getD i eNone).f == s))) := by
  unfold hitB
  have e : G.take (i + 1) = G.take i ++ [G.getD i eNone] := by rw [List.take_add_one, List.getElem?_eq_getElem hi, getD_in hi]; rfl
  rw [e, List.any_append]
  simp
/-- What the pass does at an edge: first the far end by the near end, then the near end by the far one. -/
def mark1 (far : Int → Int) (s a b v : Int) : Int := if v = b ∧ far a = s ∧ far b < 0 then s + 1 else far v
theorem mark1_no {F : Int → Int} {s a b v : Int} (h : ¬ F v < 0) : mark1 F s a b v = F v := by
  unfold mark1
  rw [if_neg (fun c => h (by rw [c.1]; exact c.2.2))]
theorem mark1_comp (G : List Ed) (to : Int) (s i : Nat) (hi : i < G.length) (v : Int) :
    mark1 (mark1 (dstP G to s i) s (G.getD i eNone).f (G.getD i eNone).t) s (G.getD i eNone).t (G.getD i eNone).f v = dstP G to s (i + 1) v := by
  have q : ∀ x, (mark1 (dstP G to s i) s (G.getD i eNone).f (G.getD i eNone).t x = s ↔ dst G to s x = s) := by
    intro x
    unfold mark1
    split
    · rename_i h
      have h2 := dst_or G to s x
      have h1 : dstP G to s i x < 0 := by rw [h.1]; exact h.2.2
      have h3 := dstP_eq_s G to s i x
      omega
    · exact dstP_eq_s G to s i x
  have qs := dstP_eq_s G to s i
  have ql : ∀ x, dstP G to s i x < 0 ↔ ¬ 0 ≤ dst G to s x ∧ hitB (G.take i) (dst G to s) s x = false := by
    intro x
    have := dst_or G to s x
    unfold dstP
    by_cases h0 : 0 ≤ dst G to s x
    · rw [if_pos h0]; constructor
      · intro h; omega
      · intro h; omega
    · rw [if_neg h0]
      cases hh : hitB (G.take i) (dst G to s) s x
      · simp; omega
      · simp; omega
  generalize ha : (G.getD i eNone).f = a at *
  generalize hb : (G.getD i eNone).t = b at *
  have hs : dstP G to s (i + 1) v = if 0 ≤ dst G to s v then dst G to s v else if (hitB (G.take i) (dst G to s) s v || ((a == v && dst G to s b == s) || (b == v && dst G to s a == s))) = true then (s : Int) + 1 else -1 := by
    unfold dstP
    rw [hitB_take hi, ha, hb]
  rw [hs]
  have hd := dst_or G to s v
  have hv : dstP G to s i v = if 0 ≤ dst G to s v then dst G to s v else if hitB (G.take i) (dst G to s) s v = true then (s : Int) + 1 else -1 := rfl
  by_cases h0 : 0 ≤ dst G to s v
  · rw [if_pos h0]
    have n1 : ¬ dstP G to s i v < 0 := by rw [ql]; exact fun h => h.1 h0
    have e1 : mark1 (dstP G to s i) s a b v = dst G to s v := by
      rw [mark1_no n1, hv, if_pos h0]
    rw [mark1_no (by rw [e1]; omega), e1]
  · rw [if_neg h0]
    rw [if_neg h0] at hv
    cases hh : hitB (G.take i) (dst G to s) s v
    · rw [hh] at hv
      have hneg : dstP G to s i v = -1 := by rw [hv]; rfl
      by_cases c1 : b = v ∧ dst G to s a = s
      · have e1 : mark1 (dstP G to s i) s a b v = (s : Int) + 1 := by
          unfold mark1; rw [if_pos ⟨c1.1.symm, (qs a).2 c1.2, by rw [c1.1]; omega⟩]
        have e2 : (false || (a == v && dst G to s b == ↑s || b == v && dst G to s a == ↑s)) = true := by simp [c1.1, c1.2]
        rw [e2, if_pos rfl, mark1_no (by rw [e1]; omega), e1]
      · have e1 : mark1 (dstP G to s i) s a b v = -1 := by
          unfold mark1
          rw [if_neg (fun h => c1 ⟨h.1.symm, (qs a).1 h.2.1⟩), hneg]
        by_cases c2 : a = v ∧ dst G to s b = s
        · have e2 : (false || (a == v && dst G to s b == ↑s || b == v && dst G to s a == ↑s)) = true := by simp [c2.1, c2.2]
          rw [e2, if_pos rfl]
          have e3 := (q b).2 c2.2
          have u : ∀ F : Int → Int, mark1 F s b a v = if v = a ∧ F b = s ∧ F a < 0 then (s : Int) + 1 else F v := fun F => rfl
          rw [u, if_pos ⟨c2.1.symm, e3, by have h := e1; rw [← c2.1] at h; omega⟩]
        · have e2 : (false || (a == v && dst G to s b == ↑s || b == v && dst G to s a == ↑s)) = false := by
            rw [Bool.false_or, Bool.or_eq_false_iff, Bool.and_eq_false_iff, Bool.and_eq_false_iff]
            refine ⟨?_, ?_⟩
            · by_cases x : a = v
              · exact .inr (by rw [beq_eq_false_iff_ne]; exact fun y => c2 ⟨x, y⟩)
              · exact .inl (by rw [beq_eq_false_iff_ne]; exact x)
            · by_cases x : b = v
              · exact .inr (by rw [beq_eq_false_iff_ne]; exact fun y => c1 ⟨x, y⟩)
              · exact .inl (by rw [beq_eq_false_iff_ne]; exact x)
          rw [e2]
          have e4 : mark1 (mark1 (dstP G to s i) s a b) s b a v = mark1 (dstP G to s i) s a b v := by
            have u : ∀ F : Int → Int, mark1 F s b a v = if v = a ∧ F b = s ∧ F a < 0 then (s : Int) + 1 else F v := fun F => rfl
            rw [u, if_neg]
            intro h
            exact c2 ⟨h.1.symm, (q b).1 h.2.1⟩
          rw [e4, e1]
          rfl
    · rw [hh] at hv
      have hpos : dstP G to s i v = (s : Int) + 1 := by rw [hv]; rfl
      rw [Bool.true_or, if_pos rfl]
      have e1 : mark1 (dstP G to s i) s a b v = (s : Int) + 1 := by rw [mark1_no (by rw [hpos]; omega), hpos]
      rw [mark1_no (by rw [e1]; omega), e1]
/-! ### A search by a queue -/
theorem nodup_short : ∀ (N : Nat) (Q : List Int), Q.Nodup → (∀ u ∈ Q, 0 ≤ u ∧ u < N) → Q.length ≤ N
  | 0, Q, _, h => by
    cases Q with
    | nil => exact Nat.le_refl _
    | cons x xs => have := h x (List.mem_cons_self); omega
  | N + 1, Q, hn, h => by
    have ih := nodup_short N (Q.erase (N : Int)) (hn.erase _) (fun u hu => by
      have h1 := h u (List.mem_of_mem_erase hu)
      have h2 := (hn.mem_erase_iff.1 hu).1
      omega)
    by_cases hm : (N : Int) ∈ Q
    · rw [List.length_erase_of_mem hm] at ih; omega
    · rw [List.erase_of_not_mem hm] at ih; omega
structure Bfs (N : Nat) (G : List Ed) (to : Int) (Q : List Int) (D : List Nat) (h : Nat) (g : Int → Option Nat) : Prop where
  len : D.length = Q.length
  hle : h ≤ Q.length
  pos : 0 < Q.length
  nd : Q.Nodup
  rng : ∀ u ∈ Q, 0 ≤ u ∧ u < N
  start : to ∈ Q
  lvl : ∀ i, i < Q.length → Lv G to (D.getD i 0) (Q.getD i 0)
  srt : ∀ i j, i ≤ j → j < Q.length → D.getD i 0 ≤ D.getD j 0
  idx : ∀ i, i < Q.length → D.getD i 0 ≤ i
  top : h < Q.length → ∀ j, j < Q.length → D.getD j 0 ≤ D.getD h 0 + 1
  done : ∀ i, i < h → ∀ k, k < G.length → ∀ v, oth (G.getD k eNone) (Q.getD i 0) = some v → v ∈ Q
  full : h < Q.length → ∀ v d, d ≤ D.getD h 0 → Lv G to d v → v ∈ Q
  map : ∀ v d, g v = some d ↔ ∃ i, i < Q.length ∧ Q.getD i 0 = v ∧ D.getD i 0 = d
theorem Bfs.short {N : Nat} {G : List Ed} {to : Int} {Q : List Int} {D : List Nat} {h : Nat} {g : Int → Option Nat} (b : Bfs N G to Q D h g) : Q.length ≤ N := nodup_short N Q b.nd b.rng
theorem Bfs.mem {N : Nat} {G : List Ed} {to : Int} {Q : List Int} {D : List Nat} {h : Nat} {g : Int → Option Nat} (b : Bfs N G to Q D h g) (v : Int) : (g v).isSome = true ↔ v ∈ Q := by
  constructor
  · intro hs
    obtain ⟨d, hd⟩ := Option.isSome_iff_exists.1 hs
    obtain ⟨i, hi, rfl, _⟩ := (b.map v d).1 hd
    exact mem_getD hi
  · intro hm
    obtain ⟨i, hi, e⟩ := getD_of_mem 0 hm
    rw [(b.map v _).2 ⟨i, hi, e, rfl⟩]; rfl
theorem Bfs.at_ {N : Nat} {G : List Ed} {to : Int} {Q : List Int} {D : List Nat} {h : Nat} {g : Int → Option Nat} (b : Bfs N G to Q D h g) {i : Nat} (hi : i < Q.length) : g (Q.getD i 0) = some (D.getD i 0) := (b.map _ _).2 ⟨i, hi, rfl, rfl⟩
theorem Bfs.init {N : Nat} {G : List Ed} {to : Int} (h1 : 0 ≤ to) (h2 : to < N) : Bfs N G to [to] [0] 0 (fun v => if v = to then some 0 else none) where
  len := rfl
  hle := by simp
  pos := by simp
  nd := by simp
  rng := by simp; exact ⟨h1, h2⟩
  start := by simp
  lvl := by
    intro i hi
    obtain rfl : i = 0 := by simp at hi; exact hi
    exact Lv.zero.2 rfl
  srt := by
    intro i j hij hj
    obtain rfl : j = 0 := by simp at hj; exact hj
    obtain rfl : i = 0 := by omega
    exact Nat.le_refl _
  idx := by
    intro i hi
    obtain rfl : i = 0 := by simp at hi; exact hi
    exact Nat.le_refl _
  top := by
    intro _ j hj
    obtain rfl : j = 0 := by simp at hj; exact hj
    simp
  done := by intro i hi; omega
  full := by
    intro _ v d hd hl
    have hd : d ≤ 0 := hd
    obtain rfl : d = 0 := by omega
    rw [Lv.zero.1 hl]; simp
  map := by
    intro v d
    constructor
    · intro h
      split at h
      · rename_i e; injection h with h; exact ⟨0, by simp, e.symm, h⟩
      · cases h
    · rintro ⟨i, hi, h1, h2⟩
      obtain rfl : i = 0 := by simp at hi; exact hi
      have h1 : to = v := h1
      have h2 : 0 = d := h2
      rw [if_pos h1.symm, h2]
theorem getD_app {α : Type} {l : List α} {x d : α} {i : Nat} (h : i < l.length) : (l ++ [x]).getD i d = l.getD i d := by
  simp [List.getD, List.getElem?_append_left h]
theorem getD_last {α : Type} {l : List α} {x d : α} : (l ++ [x]).getD l.length d = x := by simp [List.getD]
theorem Bfs.push {N : Nat} {G : List Ed} {to : Int} {Q : List Int} {D : List Nat} {h : Nat} {g : Int → Option Nat} (b : Bfs N G to Q D h g) (hG : EdIn N G) (hh : h < Q.length) {k : Nat} (hk : k < G.length) {v : Int} (ho : oth (G.getD k eNone) (Q.getD h 0) = some v) (hv : v ∉ Q) :
    Bfs N G to (Q ++ [v]) (D ++ [D.getD h 0 + 1]) h (fun x => if x = v then some (D.getD h 0 + 1) else g x) := by
  have hl : Lv G to (D.getD h 0 + 1) v := by
    obtain ⟨d', hd, hl⟩ := (b.lvl h hh).step hk ho
    by_cases e : d' = D.getD h 0 + 1
    · rw [← e]; exact hl
    · exact absurd (b.full hh v d' (by omega) hl) hv
  have hr : 0 ≤ v ∧ v < N := by
    obtain ⟨hf, ht⟩ := hG k hk
    rcases oth_cases ho with ⟨_, rfl⟩ | ⟨_, _, rfl⟩
    · exact ht
    · exact hf
  have lQ : (Q ++ [v]).length = Q.length + 1 := by simp
  have dA : ∀ i, i < Q.length → (D ++ [D.getD h 0 + 1]).getD i 0 = D.getD i 0 := fun i hi => getD_app (by rw [b.len]; exact hi)
  have dL : (D ++ [D.getD h 0 + 1]).getD Q.length 0 = D.getD h 0 + 1 := by rw [← b.len]; exact getD_last
  have qA : ∀ i, i < Q.length → (Q ++ [v]).getD i 0 = Q.getD i 0 := fun i hi => getD_app hi
  have qL : (Q ++ [v]).getD Q.length 0 = v := getD_last
  refine ⟨by simp [b.len], by rw [lQ]; have := b.hle; omega, by omega, ?_, ?_, List.mem_append_left _ b.start, ?_, ?_, ?_, ?_, ?_, ?_, ?_⟩
  · rw [List.nodup_append]
    exact ⟨b.nd, by simp, fun a ha c hc e => by simp at hc; subst hc; subst e; exact hv ha⟩
  · intro u hu
    rcases List.mem_append.1 hu with hu | hu
    · exact b.rng u hu
    · simp at hu; subst hu; exact hr
  · intro i hi
    rw [lQ] at hi
    by_cases e : i = Q.length
    · subst e; rw [dL, qL]; exact hl
    · rw [dA i (by omega), qA i (by omega)]; exact b.lvl i (by omega)
  · intro i j hij hj
    rw [lQ] at hj
    by_cases e : j = Q.length
    · subst e
      rw [dL]
      by_cases e2 : i = Q.length
      · subst e2; rw [dL]; exact Nat.le_refl _
      · rw [dA i (by omega)]; exact b.top hh i (by omega)
    · rw [dA j (by omega), dA i (by omega)]; exact b.srt i j hij (by omega)
  · intro i hi
    rw [lQ] at hi
    by_cases e : i = Q.length
    · subst e
      have := b.idx h hh
      rw [dL]; omega
    · rw [dA i (by omega)]; exact b.idx i (by omega)
  · intro _ j hj
    rw [lQ] at hj
    rw [dA h hh]
    by_cases e : j = Q.length
    · subst e; rw [dL]; exact Nat.le_refl _
    · rw [dA j (by omega)]; exact b.top hh j (by omega)
  · intro i hi k' hk' w hw
    rw [qA i (by omega)] at hw
    exact List.mem_append_left _ (b.done i hi k' hk' w hw)
  · intro _ w d hd hw
    rw [dA h hh] at hd
    exact List.mem_append_left _ (b.full hh w d hd hw)
  · intro x d
    constructor
    · intro hx
      split at hx
      · rename_i e
        injection hx with hx
        exact ⟨Q.length, by omega, by rw [qL, e], by rw [dL, hx]⟩
      · obtain ⟨i, hi, e1, e2⟩ := (b.map x d).1 hx
        exact ⟨i, by omega, by rw [qA i hi, e1], by rw [dA i hi, e2]⟩
    · rintro ⟨i, hi, e1, e2⟩
      rw [lQ] at hi
      by_cases e : i = Q.length
      · subst e
        rw [qL] at e1; rw [dL] at e2
        rw [if_pos e1.symm, e2]
      · rw [qA i (by omega)] at e1; rw [dA i (by omega)] at e2
        rw [if_neg, (b.map x d).2 ⟨i, by omega, e1, e2⟩]
        intro h'
        exact hv (by rw [← h', ← e1]; exact mem_getD (by omega))
theorem Bfs.next {N : Nat} {G : List Ed} {to : Int} {Q : List Int} {D : List Nat} {h : Nat} {g : Int → Option Nat} (b : Bfs N G to Q D h g) (hh : h < Q.length) (hc : ∀ k, k < G.length → ∀ v, oth (G.getD k eNone) (Q.getD h 0) = some v → v ∈ Q) :
    Bfs N G to Q D (h + 1) g := by
  refine ⟨b.len, by omega, b.pos, b.nd, b.rng, b.start, b.lvl, b.srt, b.idx, ?_, ?_, ?_, b.map⟩
  · intro h1 j hj
    have h2 := b.srt h (h + 1) (by omega) h1
    have h3 := b.top hh j hj
    omega
  · intro i hi k hk v hv
    by_cases e : i = h
    · subst e; exact hc k hk v hv
    · exact b.done i (by omega) k hk v hv
  · intro h1 v d hd hl
    have h2 := b.srt h (h + 1) (by omega) h1
    have h3 := b.top hh (h + 1) h1
    by_cases e : d ≤ D.getD h 0
    · exact b.full hh v d e hl
    · obtain ⟨c, rfl⟩ : ∃ c, d = c + 1 := ⟨d - 1, by omega⟩
      obtain ⟨i, u, hi, ho, hlu⟩ := hl.back
      have hu := b.full hh u c (by omega) hlu
      obtain ⟨j, hj, ej⟩ := getD_of_mem 0 hu
      have hju := b.lvl j hj
      rw [ej] at hju
      have hdc := hju.uniq hlu
      have hjh : j ≤ h := by
        rcases Nat.lt_or_ge h j with h' | h'
        · have := b.srt (h + 1) j (by omega) hj; omega
        · exact h'
      have ho' := oth_symm ho
      by_cases e2 : j = h
      · subst e2; exact hc i hi v (by rw [ej]; exact ho')
      · exact b.done j (by omega) i hi v (by rw [ej]; exact ho')
/-- At the end the map holds the distances. -/
theorem Bfs.end_ {N : Nat} {G : List Ed} {to : Int} {Q : List Int} {D : List Nat} {g : Int → Option Nat} (b : Bfs N G to Q D Q.length g) (v : Int) : g v = if 0 ≤ dst G to N v then some (dst G to N v).toNat else none := by
  have all : ∀ d u, Lv G to d u → u ∈ Q := by
    intro d
    induction d with
    | zero => intro u hu; rw [Lv.zero.1 hu]; exact b.start
    | succ d ih =>
      intro u hu
      obtain ⟨i, x, hi, ho, hx⟩ := hu.back
      obtain ⟨j, hj, ej⟩ := getD_of_mem 0 (ih x hx)
      exact b.done j hj i hi u (by rw [ej]; exact oth_symm ho)
  by_cases h0 : 0 ≤ dst G to N v
  · rw [if_pos h0]
    have hl := Lv.of_dst h0
    obtain ⟨j, hj, ej⟩ := getD_of_mem 0 (all _ v hl)
    have h1 := b.lvl j hj
    rw [ej] at h1
    exact (b.map v _).2 ⟨j, hj, ej, h1.uniq hl⟩
  · rw [if_neg h0]
    cases hg : g v with
    | none => rfl
    | some d =>
      obtain ⟨j, hj, ej, ed⟩ := (b.map v d).1 hg
      have h1 := b.lvl j hj
      have h2 := b.idx j hj
      have h3 := b.short
      rw [ej, ed] at h1
      have := h1.at_ (s := N) (by omega)
      omega
/-! ### The walk along falling distances -/
/-- The first edge that leads from a vertex to one that is nearer. -/
def nearB (d : Int → Int) (a : Int) (e : Ed) : Bool := match oth e a with | some v => d v == d a - 1 | none => false
/-- How an edge is told that is left at a vertex. -/
def sgn (e : Ed) (a : Int) : Int := if e.f = a then e.k + 1 else -e.k - 1
def walkF (G : List Ed) (d : Int → Int) : Nat → Int → List Int
  | 0, _ => []
  | s + 1, a => match G.find? (nearB d a) with
    | some e => sgn e a :: walkF G d s ((oth e a).getD 0)
    | none => []
def pathF (N : Nat) (G : List Ed) (a to : Int) : List Int × Bool := if 0 ≤ dst G to N a then (walkF G (dst G to N) (dst G to N a).toNat a, true) else ([], false)
theorem pathF_length_le (G : List Ed) (d : Int → Int) : ∀ s a, (walkF G d s a).length ≤ s
  | 0, a => by simp [walkF]
  | s + 1, a => by
    unfold walkF
    split
    · simp; exact pathF_length_le G d s _
    · simp
/-- Where a vertex has a level behind the first, such an edge is there. -/
theorem near_some {N : Nat} {G : List Ed} {to a : Int} {s : Nat} (hN : dst G to N a = ((s + 1 : Nat) : Int)) : ∃ i, i < G.length ∧ nearB (dst G to N) a (G.getD i eNone) = true ∧ ∀ j, j < i → nearB (dst G to N) a (G.getD j eNone) = false := by
  have hl : Lv G to (s + 1) a := by
    have h := Lv.of_dst (G := G) (to := to) (s := N) (v := a) (by omega)
    rw [show (dst G to N a).toNat = s + 1 by omega] at h
    exact h
  have hb := dst_or G to N a
  obtain ⟨i, u, hi, ho, hu⟩ := hl.back
  have hn : nearB (dst G to N) a (G.getD i eNone) = true := by
    unfold nearB; rw [ho]; simp only
    rw [beq_iff_eq, hu.at_ (by omega), hN]; omega
  clear hu ho hb hl hN
  induction i using Nat.strongRecOn with
  | ind i ih =>
    by_cases hall : ∀ j, j < i → nearB (dst G to N) a (G.getD j eNone) = false
    · exact ⟨i, hi, hn, hall⟩
    · obtain ⟨j, hj⟩ := Classical.not_forall.1 hall
      obtain ⟨hj1, hj2⟩ := Classical.not_imp.1 hj
      exact ih j hj1 (by omega) (by simpa using hj2)
theorem find_first {G : List Ed} {p : Ed → Bool} : ∀ {i : Nat}, i < G.length → p (G.getD i eNone) = true → (∀ j, j < i → p (G.getD j eNone) = false) → G.find? p = some (G.getD i eNone) := by
  induction G with
  | nil => intro i h; simp at h
  | cons e G ih =>
    intro i hi hp hn
    cases i with
    | zero =>
      have hp : p e = true := hp
      rw [List.find?_cons_of_pos hp]; rfl
    | succ i =>
      have h0 : p e = false := hn 0 (by omega)
      rw [List.find?_cons_of_neg (by simp [h0])]
      exact ih (by simpa using hi) hp (fun j hj => hn (j + 1) (by omega))
theorem nearB_iff {d : Int → Int} {a : Int} {e : Ed} : nearB d a e = true ↔ ∃ v, oth e a = some v ∧ d v = d a - 1 := by
  unfold nearB
  cases h : oth e a with
  | none => simp
  | some v => simp
end Go.Proofs.YtejkoicgbgoiaaaGreat.Pl

/- A row of the call's own: one cell of it read or written. No conditions. -/
namespace Go.Proofs.YtejkoicgbgoiaaaGreat
open Go.RowKit
open Pl
theorem getD_set (d : List Int) (t i : Nat) (x : Int) (ht : t < d.length) : (d.set t x).getD i 0 = if i = t then x else d.getD i 0 := by
  by_cases e : i = t
  · subst e; simp [List.getD, ht]
  · rw [if_neg e]; simp only [List.getD, List.getElem?_set_ne (Ne.symm e)]
theorem Own.row {base : Nat} {w : World} {A : Option Addr} {n c : Nat} {xs : List Int} (h : Own base w (.slice A n c) xs) (hn : 0 < n) (hl : xs.length = n) : ∃ g, A = some ⟨g, 0, none⟩ ∧ base ≤ g ∧ w.ownsRow base 2 1 (.slice (some ⟨g, 0, none⟩) n c) n (vals xs) := by
  rcases h.form with ⟨he, hx⟩ | ⟨g, c', he, hg1, hg2⟩
  · injection he; omega
  · injection he with e1 e2 e3
    subst e1
    refine ⟨g, rfl, hg1, ?_⟩
    unfold Own at h
    rw [hl] at h
    exact h
theorem drewN_row {base n : Nat} {w : World} {T : TypeId} {s : Nat} {v : Value} {ys : List Value} (h : w.ownsRow base T s v n ys) (k : Nat) : (w.drewN k).ownsRow base T s v n ys :=
  World.ownsRow.kept h (row := none) ⟨rfl, rfl, rfl, Nat.le_refl _, fun _ _ _ => rfl⟩ (by cases v.ownBlock <;> simp)
theorem fit_store {base g N T : Nat} {w w1 w2 : World} {c : Nat} {D : List Int} {v : Int} {o : Obj} {n : Nat} (h : w.ownsRow base 2 1 (.slice (some ⟨g, 0, none⟩) N c) N (vals D)) (hb : Below (base) w1 w) (hg : base ≤ g) (hw : w2 = (((w.alloc o).drewN n).setCell ⟨g, T, none⟩ (.int .i64 v))) :
    Below base w1 w2 ∧ w2.ownsRow base 2 1 (.slice (some ⟨g, 0, none⟩) N c) N (vals (D.set T v)) := by
  subst hw
  have hsz : base ≤ w.heap.size := by have := (World.ownsRow.lt h g rfl).2; omega
  refine ⟨(below_drewN (hb.alloc hsz _) n).setCell (by simpa using hg) _, ?_⟩
  obtain ⟨r1, _⟩ := World.ownsRow.stored (drewN_row (World.ownsRow.alloc h o) n) T (.int .i64 v)
  rw [vals_set] at r1
  exact r1
theorem fit_keep {base g N : Nat} {w w1 w2 : World} {c : Nat} {D : List Int} {o : Obj} {n : Nat} (h : w.ownsRow base 2 1 (.slice (some ⟨g, 0, none⟩) N c) N (vals D)) (hb : Below (base) w1 w) (hg : base ≤ g) (hw : w2 = ((w.alloc o).drewN n)) :
    Below base w1 w2 ∧ w2.ownsRow base 2 1 (.slice (some ⟨g, 0, none⟩) N c) N (vals D) := by
  subst hw
  have hsz : base ≤ w.heap.size := by have := (World.ownsRow.lt h g rfl).2; omega
  exact ⟨below_drewN (hb.alloc hsz _) n, drewN_row (World.ownsRow.alloc h o) n⟩
theorem fit_drew {base g N : Nat} {w w1 : World} {c : Nat} {D : List Int} (h : Below base w1 w ∧ w.ownsRow base 2 1 (.slice (some ⟨g, 0, none⟩) N c) N (vals D)) (n : Nat) :
    Below base w1 (w.drewN n) ∧ (w.drewN n).ownsRow base 2 1 (.slice (some ⟨g, 0, none⟩) N c) N (vals D) := ⟨below_drewN h.1 n, drewN_row h.2 n⟩
theorem fit_set {base g N : Nat} {w w1 : World} {c : Nat} {D : List Int} (h : Below base w1 w ∧ w.ownsRow base 2 1 (.slice (some ⟨g, 0, none⟩) N c) N (vals D)) (hg : base ≤ g) (T : Nat) (v : Int) :
    Below base w1 (w.setCell ⟨g, T, none⟩ (.int .i64 v)) ∧ (w.setCell ⟨g, T, none⟩ (.int .i64 v)).ownsRow base 2 1 (.slice (some ⟨g, 0, none⟩) N c) N (vals (D.set T v)) := by
  obtain ⟨r1, _⟩ := World.ownsRow.stored h.2 T (.int .i64 v)
  rw [vals_set] at r1
  exact ⟨h.1.setCell (by simpa using hg) _, r1⟩
theorem Own.of_row {b base g n c : Nat} {w : World} {D : List Int} (h : w.ownsRow base 2 1 (.slice (some ⟨g, 0, none⟩) n c) n (vals D)) (hl : D.length = n) (hb : b ≤ g) : Own b w (.slice (some ⟨g, 0, none⟩) n c) D := by
  refine Own.base (b := base) (by unfold Own; rw [hl]; exact h) (fun g' h' => ?_)
  have e : some g = some g' := h'
  injection e with e
  omega
theorem ret_vb {v : Value} {a b : Bool} (h : a = b) : Ending.returned (.tuple #[v, .bool a]) = .returned (.tuple #[v, .bool b]) := by rw [h]
theorem ret_vi {v : Value} {a b : Int} (h : a = b) : Ending.returned (.tuple #[v, .int .i64 a]) = .returned (.tuple #[v, .int .i64 b]) := by rw [h]
theorem ret_vii {v : Value} {a b c d : Int} (h : a = c) (h' : b = d) : Ending.returned (.tuple #[v, .int .i64 a, .int .i64 b]) = .returned (.tuple #[v, .int .i64 c, .int .i64 d]) := by rw [h, h']
/-- A cell of such a row. -/
theorem row_cell {base g n cv : Nat} {w : World} {d : List Int} (h : w.ownsRow base 2 1 (.slice (some ⟨g, 0, none⟩) n cv) n (vals d)) (hl : d.length = n) {i : Nat} (hi : i < n) : w.cell? ⟨g, i, none⟩ = some (.int .i64 (d.getD i 0)) := by
  rw [World.ownsRow.cellAt h _ (by omega), vals_get (by omega), getD_pt (by omega)]
theorem row_free {base g n cv : Nat} {w : World} {d : List Int} (h : w.ownsRow base 2 1 (.slice (some ⟨g, 0, none⟩) n cv) n (vals d)) (i : Nat) : w.frozen? ⟨g, i, none⟩ = false := World.ownsRow.frozenAt h i
theorem row_lt {base g n cv : Nat} {w : World} {d : List Int} (h : w.ownsRow base 2 1 (.slice (some ⟨g, 0, none⟩) n cv) n (vals d)) : g < w.heap.size := (World.ownsRow.lt h _ rfl).2
end Go.Proofs.YtejkoicgbgoiaaaGreat

/- Networks: the small functions of the program and the reference: the other end of an airway, how it is told, whether a number is on a list. Conditions: the facts on memory and on lengths that each theorem names. -/
namespace Go.Proofs.YtejkoicgbgoiaaaGreat
open Go.RowKit
open Pl
/-- The airway of a number as an edge. -/
def edA (xs : List Aw) (k : Int) : Ed := ⟨k, (xs.getD k.toNat aNone).f, (xs.getD k.toNat aNone).t⟩
def edsA (xs : List Aw) (es : List Int) : List Ed := es.map (edA xs)
def IdxOk (n : Nat) (es : List Int) : Prop := ∀ i, i < es.length → ∃ p : Nat, es.getD i 0 = p ∧ p < n
theorem edsA_length (xs : List Aw) (es : List Int) : (edsA xs es).length = es.length := List.length_map _
theorem edsA_get {xs : List Aw} {es : List Int} {i : Nat} (h : i < es.length) : (edsA xs es).getD i eNone = edA xs (es.getD i 0) := getD_map _ _ _ h
/-- The ends of an airway of a valid mine. -/
theorem mine_ends {N : Nat} {xs : List Aw} (h : mineB (N : Int) xs = true) {p : Nat} (hp : p < xs.length) : ∃ F T : Nat, (xs.getD p aNone).f = F ∧ (xs.getD p aNone).t = T ∧ F < N ∧ T < N ∧ F ≠ T := by
  obtain ⟨_, _, h3⟩ := mineB_bd h
  obtain ⟨ha, he⟩ := h3 p hp
  unfold endsB at he
  rw [Bool.and_eq_true] at he
  obtain ⟨⟨a1, a2⟩, b1, b2⟩ := And.intro (inB_iff.1 he.1) (inB_iff.1 he.2)
  obtain ⟨_, _, h5, _⟩ := airwayB_bd ha
  exact ⟨((xs.getD p aNone).f).toNat, ((xs.getD p aNone).t).toNat, by omega, by omega, by omega, by omega, by omega⟩
theorem edsA_in {N : Nat} {xs : List Aw} {es : List Int} (h : mineB (N : Int) xs = true) (he : IdxOk xs.length es) : EdIn N (edsA xs es) := by
  intro i hi
  rw [edsA_length] at hi
  rw [edsA_get hi]
  obtain ⟨p, hp, hpl⟩ := he i hi
  obtain ⟨F, T, h1, h2, h3, h4, _⟩ := mine_ends h hpl
  unfold edA
  rw [hp, Int.toNat_natCast, h1, h2]
  dsimp only
  exact ⟨⟨by omega, by omega⟩, by omega, by omega⟩
theorem other_any (s : ByteArray) (f t l c r k a : Int) (q : Int) (w : World) :
    Calls Tryz.prog 161 #[.agg #[.string s, .int .i64 f, .int .i64 t, .int .i64 l, .int .i64 c, .int .i64 r, .int .i64 k], .int .i64 a] w fun e w' => e = .returned (.tuple #[.int .i64 ((oth ⟨q, f, t⟩ a).getD 0), .bool (oth ⟨q, f, t⟩ a).isSome]) ∧ Below w.heap.size w w' := by
  by_cases h1 : a = f
  · have e : oth ⟨q, f, t⟩ a = some t := by unfold oth; rw [if_pos h1]
    rw [e]
    go_enter Tryz.func161, Tryz.ntmps161
    go_wp2
    go_ret2
    exact ⟨rfl, by go_grown⟩
  · by_cases h2 : a = t
    · have e : oth ⟨q, f, t⟩ a = some f := by unfold oth; rw [if_neg h1, if_pos h2]
      rw [e]
      go_enter Tryz.func161, Tryz.ntmps161
      go_wp2
      go_ret2
      exact ⟨rfl, by go_grown⟩
    · have e : oth ⟨q, f, t⟩ a = none := by unfold oth; rw [if_neg h1, if_neg h2]
      rw [e]
      go_enter Tryz.func161, Tryz.ntmps161
      go_wp2
      go_ret2
      exact ⟨rfl, by go_grown⟩
theorem step_any (J : Int) (A : Option Addr) (cp : Nat) (xs : List Aw) (p : Nat) (a : Int) (B : Nat) (w : World) (hn : (xs.length : Int) ≤ 1099511627776) (hI : Recs encA 7 B w A xs) (hB : B ≤ w.heap.size) (hp : p < xs.length) :
    Calls Tryz.prog 162 #[.agg #[.int .i64 J, .slice A xs.length cp], .int .i64 (p : Int), .int .i64 a] w fun e w' => e = .returned (.int .i64 (sgn (edA xs p) a)) ∧ Below w.heap.size w w' := by
  obtain ⟨⟨s, f, t, l, c, r, k⟩, hx⟩ : ∃ x, xs.getD p aNone = x := ⟨_, rfl⟩
  have be0 : Below w.heap.size w (w.alloc (.cells #[.int .i64 J, .slice A xs.length cp] 33)) := by go_grown
  obtain ⟨b, o, rfl, hab, -, c1, -⟩ := ((hI.more hB).below be0).cells7 hp hx
  have i0 : (0 : Int) ≤ (p : Int) := by omega
  have i1 : (p : Int) < xs.length := by omega
  have hs : sgn (edA xs p) a = if f = a then (p : Int) + 1 else -(p : Int) - 1 := by
    unfold sgn edA
    rw [Int.toNat_natCast, hx]
  rw [hs]
  clear hs hI hx
  by_cases h : f = a
  · rw [if_pos h]
    have hb : (f == a) = true := by rw [beq_iff_eq]; exact h
    go_enter Tryz.func162, Tryz.ntmps162
    go_wp2
    go_ret
    exact ⟨ret_int (by omega), by go_grown⟩
  · rw [if_neg h]
    have hb : (f == a) = false := by rw [beq_eq_false_iff_ne]; exact h
    go_enter Tryz.func162, Tryz.ntmps162
    go_wp2
    go_ret
    exact ⟨ret_int (by omega), by go_grown⟩
/-- Whether a number is on a list, as a loop asks. -/
theorem any_at (xs : List Int) (a : Int) : ∃ m, m ≤ xs.length ∧ (∀ k, k < m → (xs.getD k 0 == a) = false) ∧ (m < xs.length → (xs.getD m 0 == a) = true) ∧ xs.contains a = decide (m < xs.length) := by
  induction xs with
  | nil => exact ⟨0, Nat.le_refl _, fun k h => by omega, fun h => by simp at h, rfl⟩
  | cons x xs ih =>
    by_cases h : x = a
    · exact ⟨0, Nat.zero_le _, fun k h => by omega, fun _ => by simp [List.getD, h], by simp [h]⟩
    · obtain ⟨m, h1, h2, h3, h4⟩ := ih
      refine ⟨m + 1, by simpa using h1, fun k hk => ?_, fun hm => ?_, ?_⟩
      · cases k with
        | zero => simpa [List.getD] using h
        | succ k => exact h2 k (by omega)
      · exact h3 (by simpa using hm)
      · rw [List.contains_cons, h4]
        have : (a == x) = false := by rw [beq_eq_false_iff_ne]; exact fun e => h e.symm
        rw [this]; simp
theorem Index_any (A : Option Addr) (c : Nat) (xs : List Int) (a : Int) (B : Nat) (w : World) (hn : (xs.length : Int) ≤ 1099511627776) (hI : Ints B w A xs) :
    Calls Tryz.prog 160 #[.slice A xs.length c, .int .i64 a] w fun e w' => (∃ r : Int, e = .returned (.int .i64 r) ∧ decide (0 ≤ r) = xs.contains a) ∧ w = w' := by
  obtain ⟨m, m1, m2, m3, m4⟩ := any_at xs a
  generalize xs.contains a = R at *
  have M2 := Lib.hid m2
  have M3 := Lib.hid m3
  have M4 := Lib.hid m4
  have J := Lib.hid hI
  clear m2 m3 m4 hI
  go_enter Tryz.func160, Tryz.ntmps160
  go_wp2
  go_loop [8] (fun i => ∃ q : Nat, q ≤ m ∧ i = .int .i64 q) (fun i => xs.length - (intOf i).toNat)
  case atStart => exact ⟨0, Nat.zero_le _, rfl⟩
  case round =>
    obtain ⟨q, hq, rfl⟩ := hrel
    by_cases hlt : q < xs.length
    · obtain ⟨ad, rfl, _, hc⟩ := J.out.atD hlt
      have i0 : (0 : Int) ≤ (q : Int) := by omega
      have i1 : (q : Int) < xs.length := by omega
      by_cases hqm : q < m
      · have h := M2.out q hqm
        generalize xs.getD q 0 = x at *
        have h : (a == x) = false := by rw [beq_eq_false_iff_ne] at h ⊢; exact fun e => h e.symm
        go_wp2
        go_round
        case rel => exact ⟨q + 1, by omega, by go_num⟩
        case measure => simp [intOf]; omega
      · obtain rfl : m = q := by omega
        have h := M3.out hlt
        have HD := Lib.hid (decide_eq_true hlt)
        generalize xs.getD m 0 = x at *
        have h : (a == x) = true := by rw [beq_iff_eq] at h ⊢; exact h.symm
        go_wp2
        go_ret
        exact ⟨⟨(m : Int), rfl, by rw [M4.out, HD.out]; exact decide_eq_true (by omega)⟩, rfl⟩
    · have HD := Lib.hid (decide_eq_false (show ¬ m < xs.length by omega))
      obtain rfl : q = xs.length := by omega
      go_wp2
      go_ret
      exact ⟨⟨-1, rfl, by rw [M4.out, HD.out]; rfl⟩, rfl⟩
theorem Contains_any (A : Option Addr) (c : Nat) (xs : List Int) (a : Int) (B : Nat) (w : World) (hn : (xs.length : Int) ≤ 1099511627776) (hI : Ints B w A xs) :
    Calls Tryz.prog 127 #[.slice A xs.length c, .int .i64 a] w fun e w' => e = .returned (.bool (xs.contains a)) ∧ w = w' := by
  have HC := Lib.hid (Index_any A c xs a B w hn hI)
  clear hI
  generalize xs.contains a = R at *
  go_enter Tryz.func127, Tryz.ntmps127
  go_wp2_with fail
  refine HC.out.mono ?_
  rintro e w2 ⟨⟨r, rfl, hr⟩, rfl⟩
  go_wp2_with fail
  go_ret
  exact ⟨rfl, rfl⟩
theorem l00Has_any (A : Option Addr) (c : Nat) (xs : List Int) (a : Int) (B : Nat) (w : World) (hn : (xs.length : Int) ≤ 1099511627776) (hI : Ints B w A xs) :
    Calls Tryz.prog 144 #[.slice A xs.length c, .int .i64 a] w fun e w' => e = .returned (.bool (xs.contains a)) ∧ w = w' := by
  obtain ⟨m, m1, m2, m3, m4⟩ := any_at xs a
  generalize xs.contains a = R at *
  have M2 := Lib.hid m2
  have M3 := Lib.hid m3
  have M4 := Lib.hid m4
  have J := Lib.hid hI
  clear m2 m3 m4 hI
  go_enter Tryz.func144, Tryz.ntmps144
  go_wp2
  go_loop [5] (fun i => ∃ q : Nat, q ≤ m ∧ i = .int .i64 q) (fun i => xs.length - (intOf i).toNat)
  case atStart => exact ⟨0, Nat.zero_le _, rfl⟩
  case round =>
    obtain ⟨q, hq, rfl⟩ := hrel
    by_cases hlt : q < xs.length
    · obtain ⟨ad, rfl, _, hc⟩ := J.out.atD hlt
      have i0 : (0 : Int) ≤ (q : Int) := by omega
      have i1 : (q : Int) < xs.length := by omega
      by_cases hqm : q < m
      · have h := M2.out q hqm
        generalize xs.getD q 0 = x at *
        go_wp2
        go_round
        case rel => exact ⟨q + 1, by omega, by go_num⟩
        case measure => simp [intOf]; omega
      · obtain rfl : m = q := by omega
        have h := M3.out hlt
        have HD := Lib.hid (decide_eq_true hlt)
        generalize xs.getD m 0 = x at *
        go_wp2
        go_ret
        exact ⟨ret_bool (by rw [M4.out, HD.out]), rfl⟩
    · have HD := Lib.hid (decide_eq_false (show ¬ m < xs.length by omega))
      obtain rfl : q = xs.length := by omega
      go_wp2
      go_ret
      exact ⟨ret_bool (by rw [M4.out, HD.out]), rfl⟩
end Go.Proofs.YtejkoicgbgoiaaaGreat

/- Flows: lists that go with a mine; whether flows are balanced; by the program and by the reference. Conditions: the facts on memory and on lengths that each theorem names. -/
namespace Go.Proofs.YtejkoicgbgoiaaaGreat
open Go.RowKit
open Pl
/-- A list of the length n with numbers in a range. -/
def lstN (n : Nat) (xs : List Int) (lo hi : Int) : Bool := decide ((xs.length : Int) = n) && allIn xs lo hi
theorem lstN_iff {n : Nat} {xs : List Int} {lo hi : Int} : lstN n xs lo hi = true ↔ xs.length = n ∧ ∀ i, i < n → lo ≤ xs.getD i 0 ∧ xs.getD i 0 ≤ hi := by
  unfold lstN
  rw [Bool.and_eq_true, decide_eq_true_eq, allIn_up, allUp_iff]
  constructor
  · rintro ⟨h1, h2⟩
    have h1 : xs.length = n := by omega
    exact ⟨h1, fun i hi => inB_iff.1 (h2 i (by omega))⟩
  · rintro ⟨h1, h2⟩
    exact ⟨by omega, fun i hi => inB_iff.2 (h2 i (by omega))⟩
def sysB (n : Nat) (rs ps fl : List Int) : Bool := lstN n rs 1 1000000 && (lstN n ps (-100000) 100000 && lstN n fl (-100000) 100000)
/-- What comes to a junction less what leaves it, along the first airways. -/
def exK (xs : List Aw) (fl : List Int) (j : Int) : Nat → Int
  | 0 => 0
  | k + 1 => if (xs.getD k aNone).t = j then exK xs fl j k + fl.getD k 0 else if (xs.getD k aNone).f = j then exK xs fl j k - fl.getD k 0 else exK xs fl j k
theorem exK_bd {xs : List Aw} {fl : List Int} {j : Int} {n : Nat} (h : ∀ i, i < n → -100000 ≤ fl.getD i 0 ∧ fl.getD i 0 ≤ 100000) : ∀ k, k ≤ n → -(100000 * (k : Int)) ≤ exK xs fl j k ∧ exK xs fl j k ≤ 100000 * (k : Int)
  | 0, _ => by unfold exK; omega
  | k + 1, hk => by
    have ih := exK_bd (xs := xs) (j := j) h k (by omega)
    have h1 := h k (by omega)
    unfold exK
    split
    · omega
    · split
      · omega
      · omega
def balB (N : Nat) (xs : List Aw) (fl : List Int) : Bool := allUp (fun j => decide (exK xs fl (j : Int) xs.length = 0)) N
set_option maxRecDepth 100000 in
theorem l07Flows_any (bm om : Nat) (A : Option Addr) (cp nx : Nat) (A2 : Option Addr) (c2 : Nat) (dr : List Int) (B : Nat) (w : World) (_ : (nx : Int) ≤ 1099511627776) (hn : (dr.length : Int) ≤ 1099511627776) (hI : Ints B w A2 dr) (mm : w.cell? ⟨bm, om + 1, none⟩ = some (.slice A nx cp)) :
    Calls Tryz.prog 102 #[.pointer (some ⟨bm, om, none⟩), .slice A2 dr.length c2] w fun e w' => e = .returned (.bool (decide ((dr.length : Int) = nx) && allIn dr (-100000) 100000)) ∧ ∃ n, w.drewN n = w' := by
  obtain ⟨m, m1, m2, m3, m4⟩ := any_stop (fun x : Int => !inB x (-100000) 100000) dr 0
  obtain ⟨R, hR⟩ : ∃ R, R = (decide ((dr.length : Int) = nx) && allIn dr (-100000) 100000) := ⟨_, rfl⟩
  rw [← hR]
  have HR : Hid (R = (decide ((dr.length : Int) = nx) && !decide (m < dr.length))) := Lib.hid (by
    have e : allIn dr (-100000) 100000 = !(dr.any fun x => !inB x (-100000) 100000) := by unfold allIn; rw [List.not_any_eq_all_not]; simp
    rw [hR, e, m4])
  have M2 := Lib.hid m2
  have M3 := Lib.hid m3
  have J0 := Lib.hid hI
  clear hR m2 m3 m4 hI
  go_enter Tryz.func102, Tryz.ntmps102
  go_wp2
  go_loopw [5] (fun i wr => ∃ q : Nat, q ≤ m ∧ i = .int .i64 q ∧ w = wr) (fun i _ => dr.length - (intOf i).toNat)
  case atStart => exact ⟨0, Nat.zero_le _, rfl, rfl⟩
  case round =>
    obtain ⟨q, hq, rfl, rfl⟩ := hrel
    by_cases hlt : q < dr.length
    · obtain ⟨ad, rfl, _, hc⟩ := J0.out.at_ (k := q) hlt
      have e : dr.getD q 0 = dr[q] := by simp [List.getD, hlt]
      have i0 : (0 : Int) ≤ (q : Int) := by omega
      have i1 : (q : Int) < dr.length := by omega
      by_cases hqm : q < m
      · have hb := M2.out q hqm
        rw [e] at hb
        have hb : (!inB dr[q] (-100000) 100000) = false := hb
        rw [Bool.not_eq_false'] at hb
        generalize dr[q] = x at *
        clear e
        go_wp2_with (go_at_call 137; refine (eqb (l03Flow_any _ _) hb).mono ?_; rintro e w' ⟨rfl, rfl⟩)
        go_roundw
        case rel => exact ⟨q + 1, by omega, by go_num, by first | trivial | rfl⟩
        case measure => simp [intOf]; omega
      · obtain rfl : m = q := by omega
        have hb := M3.out hlt
        rw [e] at hb
        have hb : (!inB dr[m] (-100000) 100000) = true := hb
        rw [Bool.not_eq_true'] at hb
        have HD := Lib.hid (decide_eq_true hlt)
        generalize dr[m] = x at *
        clear e
        go_wp2_with (go_at_call 137; refine (eqb (l03Flow_any _ _) hb).mono ?_; rintro e w' ⟨rfl, rfl⟩)
        go_ret
        exact ⟨ret_bool (by rw [HR.out, HD.out]; simp), 0, rfl⟩
    · have HD := Lib.hid (decide_eq_false (show ¬ m < dr.length by omega))
      by_cases hl : (dr.length : Int) = nx
      · have HL := Lib.hid (decide_eq_true hl)
        have hlb : ((dr.length : Int) == (nx : Int)) = true := by rw [beq_iff_eq]; exact hl
        clear hl
        go_wp2
        go_ret
        exact ⟨ret_bool (by rw [HR.out, HD.out, HL.out]; first | rfl | simp [hlb]), 0, rfl⟩
      · have HL := Lib.hid (decide_eq_false hl)
        have hlb : ((dr.length : Int) == (nx : Int)) = false := by rw [beq_eq_false_iff_ne]; exact hl
        clear hl
        go_wp2
        go_ret
        exact ⟨ret_bool (by rw [HR.out, HD.out, HL.out]; first | rfl | simp [hlb]), 0, rfl⟩
set_option maxRecDepth 100000 in
theorem l07Res_any (bm om : Nat) (A : Option Addr) (cp nx : Nat) (A2 : Option Addr) (c2 : Nat) (dr : List Int) (B : Nat) (w : World) (_ : (nx : Int) ≤ 1099511627776) (hn : (dr.length : Int) ≤ 1099511627776) (hI : Ints B w A2 dr) (mm : w.cell? ⟨bm, om + 1, none⟩ = some (.slice A nx cp)) :
    Calls Tryz.prog 101 #[.pointer (some ⟨bm, om, none⟩), .slice A2 dr.length c2] w fun e w' => e = .returned (.bool (decide ((dr.length : Int) = nx) && allIn dr 1 1000000)) ∧ ∃ n, w.drewN n = w' := by
  obtain ⟨m, m1, m2, m3, m4⟩ := any_stop (fun x : Int => !inB x 1 1000000) dr 0
  obtain ⟨R, hR⟩ : ∃ R, R = (decide ((dr.length : Int) = nx) && allIn dr 1 1000000) := ⟨_, rfl⟩
  rw [← hR]
  have HR : Hid (R = (decide ((dr.length : Int) = nx) && !decide (m < dr.length))) := Lib.hid (by
    have e : allIn dr 1 1000000 = !(dr.any fun x => !inB x 1 1000000) := by unfold allIn; rw [List.not_any_eq_all_not]; simp
    rw [hR, e, m4])
  have M2 := Lib.hid m2
  have M3 := Lib.hid m3
  have J0 := Lib.hid hI
  clear hR m2 m3 m4 hI
  go_enter Tryz.func101, Tryz.ntmps101
  go_wp2
  go_loopw [5] (fun i wr => ∃ q : Nat, q ≤ m ∧ i = .int .i64 q ∧ w = wr) (fun i _ => dr.length - (intOf i).toNat)
  case atStart => exact ⟨0, Nat.zero_le _, rfl, rfl⟩
  case round =>
    obtain ⟨q, hq, rfl, rfl⟩ := hrel
    by_cases hlt : q < dr.length
    · obtain ⟨ad, rfl, _, hc⟩ := J0.out.at_ (k := q) hlt
      have e : dr.getD q 0 = dr[q] := by simp [List.getD, hlt]
      have i0 : (0 : Int) ≤ (q : Int) := by omega
      have i1 : (q : Int) < dr.length := by omega
      by_cases hqm : q < m
      · have hb := M2.out q hqm
        rw [e] at hb
        have hb : (!inB dr[q] 1 1000000) = false := hb
        rw [Bool.not_eq_false'] at hb
        generalize dr[q] = x at *
        clear e
        go_wp2_with (go_at_call 136; refine (eqb (l03Res_any _ _) hb).mono ?_; rintro e w' ⟨rfl, rfl⟩)
        go_roundw
        case rel => exact ⟨q + 1, by omega, by go_num, by first | trivial | rfl⟩
        case measure => simp [intOf]; omega
      · obtain rfl : m = q := by omega
        have hb := M3.out hlt
        rw [e] at hb
        have hb : (!inB dr[m] 1 1000000) = true := hb
        rw [Bool.not_eq_true'] at hb
        have HD := Lib.hid (decide_eq_true hlt)
        generalize dr[m] = x at *
        clear e
        go_wp2_with (go_at_call 136; refine (eqb (l03Res_any _ _) hb).mono ?_; rintro e w' ⟨rfl, rfl⟩)
        go_ret
        exact ⟨ret_bool (by rw [HR.out, HD.out]; simp), 0, rfl⟩
    · have HD := Lib.hid (decide_eq_false (show ¬ m < dr.length by omega))
      by_cases hl : (dr.length : Int) = nx
      · have HL := Lib.hid (decide_eq_true hl)
        have hlb : ((dr.length : Int) == (nx : Int)) = true := by rw [beq_iff_eq]; exact hl
        clear hl
        go_wp2
        go_ret
        exact ⟨ret_bool (by rw [HR.out, HD.out, HL.out]; first | rfl | simp [hlb]), 0, rfl⟩
      · have HL := Lib.hid (decide_eq_false hl)
        have hlb : ((dr.length : Int) == (nx : Int)) = false := by rw [beq_eq_false_iff_ne]; exact hl
        clear hl
        go_wp2
        go_ret
        exact ⟨ret_bool (by rw [HR.out, HD.out, HL.out]; first | rfl | simp [hlb]), 0, rfl⟩
theorem hasSystem_any (J : Int) (A : Option Addr) (cp : Nat) (xs : List Aw) (AR : Option Addr) (cr : Nat) (rs : List Int) (AP : Option Addr) (cq : Nat) (ps : List Int) (AL : Option Addr) (cl : Nat) (fl : List Int) (B : Nat) (w : World) (hx : (xs.length : Int) ≤ 1099511627776) (hnr : (rs.length : Int) ≤ 1099511627776) (hnp : (ps.length : Int) ≤ 1099511627776) (hnl : (fl.length : Int) ≤ 1099511627776)
    (hR : Ints B w AR rs) (hP : Ints B w AP ps) (hL : Ints B w AL fl) (hB : B ≤ w.heap.size) (tR : Fits rs) (tP : Fits ps) (tL : Fits fl) :
    Calls Tryz.prog 91 #[.agg #[.int .i64 J, .slice A xs.length cp], .slice AR rs.length cr, .slice AP ps.length cq, .slice AL fl.length cl] w fun e w' => e = .returned (.bool (sysB xs.length rs ps fl)) ∧ Below w.heap.size w w' := by
  have be0 : Below w.heap.size w (w.alloc (.cells #[.int .i64 J, .slice A xs.length cp] 33)) := by go_grown
  have k0 : ((w.alloc (.cells #[.int .i64 J, .slice A xs.length cp] 33))).cell? ⟨w.heap.size, 0, none⟩ = some (.int .i64 J) := by go_simp
  have k1 : ((w.alloc (.cells #[.int .i64 J, .slice A xs.length cp] 33))).cell? ⟨w.heap.size, 1, none⟩ = some (.slice A xs.length cp) := by go_simp
  have S1 := Lib.hid (fun (W : World) (hb : Below w.heap.size w W) => hasList_any J A cp xs AR cr rs 1 1000000 w.heap.size W hx hnr ((hR.more hB).below hb) hb.size tR)
  have S2 := Lib.hid (fun (W : World) (hb : Below w.heap.size w W) => hasList_any J A cp xs AP cq ps (-100000) 100000 w.heap.size W hx hnp ((hP.more hB).below hb) hb.size tP)
  have S3 := Lib.hid (fun (W : World) (hb : Below w.heap.size w W) => hasFlows_any J A cp xs AL cl fl w.heap.size W hx hnl ((hL.more hB).below hb) hb.size tL)
  have e : sysB xs.length rs ps fl = ((decide ((rs.length : Int) = xs.length) && allIn rs 1 1000000) && ((decide ((ps.length : Int) = xs.length) && allIn ps (-100000) 100000) && (decide ((fl.length : Int) = xs.length) && allIn fl (-100000) 100000))) := rfl
  rw [e]
  clear hR hP hL tR tP tL e
  generalize (decide ((rs.length : Int) = xs.length) && allIn rs 1 1000000) = b1 at *
  generalize (decide ((ps.length : Int) = xs.length) && allIn ps (-100000) 100000) = b2 at *
  generalize (decide ((fl.length : Int) = xs.length) && allIn fl (-100000) 100000) = b3 at *
  cases b1
  · go_enter Tryz.func91, Tryz.ntmps91
    go_wp2_with fail
    refine (S1.out _ be0).mono ?_
    rintro e w1 ⟨rfl, hb1⟩
    go_wp2_with fail
    go_ret
    exact ⟨rfl, be0.trans (hb1.mono be0.size)⟩
  cases b2
  · go_enter Tryz.func91, Tryz.ntmps91
    go_wp2_with fail
    generalize (w.alloc (.cells #[.int .i64 J, .slice A xs.length cp] 33)) = w0 at *
    refine (S1.out _ be0).mono ?_
    rintro e w1 ⟨rfl, hb1⟩
    have k01 := cell_later hb1 k0
    have k11 := cell_later hb1 k1
    have be1 := be0.trans (hb1.mono be0.size)
    go_wp2_with fail
    refine (S2.out _ be1).mono ?_
    rintro e w2 ⟨rfl, hb2⟩
    go_wp2_with fail
    go_ret
    exact ⟨rfl, be1.trans (hb2.mono be1.size)⟩
  go_enter Tryz.func91, Tryz.ntmps91
  go_wp2_with fail
  generalize (w.alloc (.cells #[.int .i64 J, .slice A xs.length cp] 33)) = w0 at *
  refine (S1.out _ be0).mono ?_
  rintro e w1 ⟨rfl, hb1⟩
  have k01 := cell_later hb1 k0
  have k11 := cell_later hb1 k1
  have be1 := be0.trans (hb1.mono be0.size)
  go_wp2_with fail
  refine (S2.out _ be1).mono ?_
  rintro e w2 ⟨rfl, hb2⟩
  have k02 := cell_later hb2 k01
  have k12 := cell_later hb2 k11
  have be2 := be1.trans (hb2.mono be1.size)
  go_wp2_with fail
  refine (S3.out _ be2).mono ?_
  rintro e w3 ⟨rfl, hb3⟩
  go_wp2_with fail
  go_ret
  exact ⟨rfl, be2.trans (hb3.mono be2.size)⟩
set_option maxRecDepth 100000 in
set_option maxHeartbeats 1600000 in
theorem imbalance_any (J : Int) (A : Option Addr) (cp : Nat) (xs : List Aw) (AL : Option Addr) (cl : Nat) (fl : List Int) (j : Int) (w : World) (hn : xs.length ≤ 24) (hI : Recs encA 7 w.heap.size w A xs) (hL : Ints w.heap.size w AL fl) (hl : fl.length = xs.length) (hfb : ∀ i, i < xs.length → -100000 ≤ fl.getD i 0 ∧ fl.getD i 0 ≤ 100000) :
    Calls Tryz.prog 125 #[.agg #[.int .i64 J, .slice A xs.length cp], .slice AL fl.length cl, .int .i64 j] w fun e w' => e = .returned (.int .i64 (exK xs fl j xs.length)) ∧ Below w.heap.size w w' := by
  have be0 : Below w.heap.size w (w.alloc (.cells #[.int .i64 J, .slice A xs.length cp] 33)) := by go_grown
  have k0 : ((w.alloc (.cells #[.int .i64 J, .slice A xs.length cp] 33))).cell? ⟨w.heap.size, 0, none⟩ = some (.int .i64 J) := by go_simp
  have k1 : ((w.alloc (.cells #[.int .i64 J, .slice A xs.length cp] 33))).cell? ⟨w.heap.size, 1, none⟩ = some (.slice A xs.length cp) := by go_simp
  have J0 := Lib.hid ((hI.below be0).more be0.size)
  have JL := Lib.hid ((hL.below be0).more be0.size)
  have HL := Lib.hid hl
  have HFB := Lib.hid hfb
  have hl24 : fl.length ≤ 24 := by omega
  clear hI hL hl hfb
  go_enter Tryz.func125, Tryz.ntmps125
  go_wp2
  generalize (w.alloc (.cells #[.int .i64 J, .slice A xs.length cp] 33)) = w0 at *
  clear k0 k1
  go_loopw [7, 13] (fun u ii wr => ∃ k : Nat, k ≤ xs.length ∧ ii = .int .i64 k ∧ u = .int .i64 (exK xs fl j k) ∧ Below w0.heap.size w0 wr) (fun _ ii _ => xs.length - (intOf ii).toNat)
  case atStart => exact ⟨0, Nat.zero_le _, rfl, rfl, Below.refl _ _⟩
  case round =>
    obtain ⟨k, hk, rfl, rfl, hb⟩ := hrel
    by_cases hlt : k < xs.length
    · obtain ⟨⟨s, f, t, l, c, r, q⟩, hax⟩ : ∃ x, xs.getD k aNone = x := ⟨_, rfl⟩
      obtain ⟨b, o, rfl, hab, c0, c1, c2, c3, c4, c5, c6⟩ := (J0.out.below hb).cells7 hlt hax
      obtain ⟨adl, rfl, hal, hcl⟩ := (JL.out.below hb).atD (k := k) (by have := HL.out; omega)
      have hEb := exK_bd (xs := xs) (j := j) HFB.out k (by omega)
      have hfb := HFB.out k hlt
      have HST : Hid (exK xs fl j (k + 1) = if t = j then exK xs fl j k + fl.getD k 0 else if f = j then exK xs fl j k - fl.getD k 0 else exK xs fl j k) := Lib.hid (by
        have e : exK xs fl j (k + 1) = if (xs.getD k aNone).t = j then exK xs fl j k + fl.getD k 0 else if (xs.getD k aNone).f = j then exK xs fl j k - fl.getD k 0 else exK xs fl j k := rfl
        rw [e, hax])
      have i0 : (0 : Int) ≤ (k : Int) := by omega
      have i1 : (k : Int) < xs.length := by omega
      have i2 : (k : Int) < fl.length := by have := HL.out; omega
      have hsz := hb.size
      have hba : Below wr.heap.size wr (wr.alloc (.cells #[.string s, .int .i64 f, .int .i64 t, .int .i64 l, .int .i64 c, .int .i64 r, .int .i64 q] 99)) := (Below.refl _ _).alloc (Nat.le_refl _) _
      have a1 : ((wr.alloc (.cells #[.string s, .int .i64 f, .int .i64 t, .int .i64 l, .int .i64 c, .int .i64 r, .int .i64 q] 99))).cell? ⟨wr.heap.size, 1, none⟩ = some (.int .i64 f) := by go_simp
      have a2 : ((wr.alloc (.cells #[.string s, .int .i64 f, .int .i64 t, .int .i64 l, .int .i64 c, .int .i64 r, .int .i64 q] 99))).cell? ⟨wr.heap.size, 2, none⟩ = some (.int .i64 t) := by go_simp
      have hbw := hb.trans (hba.mono hsz)
      have hcl' := cell_later hba hcl
      clear hax
      generalize fl.getD k 0 = x at *
      generalize exK xs fl j k = ex at *
      by_cases h1 : t = j
      · have HS2 := Lib.hid (show exK xs fl j (k + 1) = ex + x by rw [HST.out, if_pos h1])
        have hjb : (j == t) = true := by rw [beq_iff_eq]; exact h1.symm
        clear HST h1
        go_wp2
        go_roundw
        case rel => exact ⟨k + 1, by omega, by go_num, by rw [HS2.out], hbw⟩
        case measure => simp [intOf]; omega
      · have hjb : (j == t) = false := by rw [beq_eq_false_iff_ne]; exact fun e => h1 e.symm
        by_cases h2 : f = j
        · have HS2 := Lib.hid (show exK xs fl j (k + 1) = ex - x by rw [HST.out, if_neg h1, if_pos h2])
          have hjf : (j == f) = true := by rw [beq_iff_eq]; exact h2.symm
          clear HST h1 h2
          go_wp2
          go_roundw
          case rel => exact ⟨k + 1, by omega, by go_num, by rw [HS2.out], hbw⟩
          case measure => simp [intOf]; omega
        · have HS2 := Lib.hid (show exK xs fl j (k + 1) = ex by rw [HST.out, if_neg h1, if_neg h2])
          have hjf : (j == f) = false := by rw [beq_eq_false_iff_ne]; exact fun e => h2 e.symm
          clear HST h1 h2
          go_wp2
          go_roundw
          case rel => exact ⟨k + 1, by omega, by go_num, by rw [HS2.out], hbw⟩
          case measure => simp [intOf]; omega
    · obtain rfl : k = xs.length := by omega
      go_wp2
      go_ret
      exact ⟨rfl, be0.trans (hb.mono be0.size)⟩
set_option maxRecDepth 100000 in
theorem balanced_any (N : Nat) (A : Option Addr) (cp : Nat) (xs : List Aw) (AL : Option Addr) (cl : Nat) (fl : List Int) (w : World) (hN : N ≤ 16) (hn : xs.length ≤ 24) (hI : Recs encA 7 w.heap.size w A xs) (hL : Ints w.heap.size w AL fl) (hl : fl.length = xs.length) (hfb : ∀ i, i < xs.length → -100000 ≤ fl.getD i 0 ∧ fl.getD i 0 ≤ 100000) :
    Calls Tryz.prog 92 #[.agg #[.int .i64 (N : Int), .slice A xs.length cp], .slice AL fl.length cl] w fun e w' => e = .returned (.bool (balB N xs fl)) ∧ Below w.heap.size w w' := by
  obtain ⟨m, m1, m2, m3⟩ := first_stop (fun j => decide (exK xs fl (j : Int) xs.length = 0)) N
  obtain ⟨R, hR⟩ : ∃ R, R = balB N xs fl := ⟨_, rfl⟩
  rw [← hR]
  have HR : Hid (R = decide (m = N)) := Lib.hid (by rw [hR]; unfold balB; rw [allUp_stop m1 m2 m3])
  have M2 := Lib.hid m2
  have M3 := Lib.hid m3
  have be0 : Below w.heap.size w (w.alloc (.cells #[.int .i64 (N : Int), .slice A xs.length cp] 33)) := by go_grown
  have k0 : (w.alloc (.cells #[.int .i64 (N : Int), .slice A xs.length cp] 33)).cell? ⟨w.heap.size, 0, none⟩ = some (.int .i64 (N : Int)) := by go_simp
  have k1 : (w.alloc (.cells #[.int .i64 (N : Int), .slice A xs.length cp] 33)).cell? ⟨w.heap.size, 1, none⟩ = some (.slice A xs.length cp) := by go_simp
  have J0 := Lib.hid ((hI.below be0).more be0.size)
  have JL := Lib.hid ((hL.below be0).more be0.size)
  have HC := Lib.hid (fun (W : World) (j : Int) (hb : Below w.heap.size w W) => imbalance_any (N : Int) A cp xs AL cl fl j W hn ((hI.below hb).more hb.size) ((hL.below hb).more hb.size) hl hfb)
  clear hI hL hl hfb m2 m3 hR
  have K0 := Lib.hid k0
  have K1 := Lib.hid k1
  go_enter Tryz.func92, Tryz.ntmps92
  go_wp2
  generalize (w.alloc (.cells #[.int .i64 (N : Int), .slice A xs.length cp] 33)) = w0 at *
  clear k0 k1
  go_loopw [8] (fun ii wr => ∃ k : Nat, k ≤ m ∧ ii = .int .i64 k ∧ Below w0.heap.size w0 wr) (fun ii _ => N - (intOf ii).toNat)
  case atStart => exact ⟨0, Nat.zero_le _, rfl, Below.refl _ _⟩
  case round =>
    obtain ⟨k, hk, rfl, hb⟩ := hrel
    have m0 := cell_later hb K0.out
    have mm := cell_later hb K1.out
    have hbw := be0.trans (hb.mono be0.size)
    by_cases hlt : k < N
    · have HCk := Lib.hid (HC.out wr (k : Int) hbw)
      by_cases hkm : k < m
      · have hz : exK xs fl (k : Int) xs.length = 0 := of_decide_eq_true (M2.out k hkm)
        rw [hz] at HCk
        clear hz
        go_wp2_with fail
        refine HCk.out.mono ?_
        rintro e w2 ⟨rfl, hb2⟩
        go_wp2
        go_roundw
        case rel => exact ⟨k + 1, by omega, by go_num, hb.trans (hb2.mono hb.size)⟩
        case measure => simp [intOf]; omega
      · obtain rfl : m = k := by omega
        have hz : ¬ exK xs fl (m : Int) xs.length = 0 := of_decide_eq_false (M3.out hlt)
        have HD := Lib.hid (decide_eq_false (show ¬ m = N by omega))
        generalize exK xs fl (m : Int) xs.length = x at *
        have hxb : (x != 0) = true := by simpa using hz
        clear hz
        go_wp2_with fail
        refine HCk.out.mono ?_
        rintro e w2 ⟨rfl, hb2⟩
        go_wp2
        go_ret
        exact ⟨ret_bool (by rw [HR.out, HD.out]), hbw.trans (hb2.mono hbw.size)⟩
    · have HD := Lib.hid (decide_eq_true (show m = N by omega))
      obtain rfl : k = N := by omega
      go_wp2
      go_ret
      exact ⟨ret_bool (by rw [HR.out, HD.out]), hbw⟩
set_option maxRecDepth 100000 in
set_option maxHeartbeats 1600000 in
theorem l07Excess_any (bm om : Nat) (A : Option Addr) (cp : Nat) (xs : List Aw) (AL : Option Addr) (cl : Nat) (fl : List Int) (j : Int) (B : Nat) (w : World) (hn : xs.length ≤ 24) (hI : Recs encA 7 B w A xs) (hL : Ints B w AL fl) (hl : fl.length = xs.length) (hfb : ∀ i, i < xs.length → -100000 ≤ fl.getD i 0 ∧ fl.getD i 0 ≤ 100000) (hne : ∀ i, i < xs.length → (xs.getD i aNone).f ≠ (xs.getD i aNone).t)
    (mm : w.cell? ⟨bm, om + 1, none⟩ = some (.slice A xs.length cp)) :
    Calls Tryz.prog 157 #[.pointer (some ⟨bm, om, none⟩), .slice AL fl.length cl, .int .i64 j] w fun e w' => e = .returned (.int .i64 (exK xs fl j xs.length)) ∧ w = w' := by
  have J0 := Lib.hid hI
  have JL := Lib.hid hL
  have HL := Lib.hid hl
  have HFB := Lib.hid hfb
  have HNE := Lib.hid hne
  have hl24 : fl.length ≤ 24 := by omega
  clear hI hL hl hfb hne
  go_enter Tryz.func157, Tryz.ntmps157
  go_wp2
  go_loop [7, 8] (fun u ii => ∃ k : Nat, k ≤ xs.length ∧ ii = .int .i64 k ∧ u = .int .i64 (exK xs fl j k)) (fun _ ii => xs.length - (intOf ii).toNat)
  case atStart => exact ⟨0, Nat.zero_le _, rfl, rfl⟩
  case round =>
    obtain ⟨k, hk, rfl, rfl⟩ := hrel
    by_cases hlt : k < xs.length
    · obtain ⟨⟨s, f, t, l, c, r, q⟩, hax⟩ : ∃ x, xs.getD k aNone = x := ⟨_, rfl⟩
      obtain ⟨b, o, rfl, hab, c0, c1, c2, c3, c4, c5, c6⟩ := J0.out.cells7 hlt hax
      obtain ⟨adl, rfl, hal, hcl⟩ := JL.out.atD (k := k) (by have := HL.out; omega)
      have hEb := exK_bd (xs := xs) (j := j) HFB.out k (by omega)
      have hfb := HFB.out k hlt
      have hne := HNE.out k hlt
      rw [hax] at hne
      have hne : f ≠ t := hne
      have HST : Hid (exK xs fl j (k + 1) = if t = j then exK xs fl j k + fl.getD k 0 else if f = j then exK xs fl j k - fl.getD k 0 else exK xs fl j k) := Lib.hid (by
        have e : exK xs fl j (k + 1) = if (xs.getD k aNone).t = j then exK xs fl j k + fl.getD k 0 else if (xs.getD k aNone).f = j then exK xs fl j k - fl.getD k 0 else exK xs fl j k := rfl
        rw [e, hax])
      have i0 : (0 : Int) ≤ (k : Int) := by omega
      have i1 : (k : Int) < xs.length := by omega
      have i2 : (k : Int) < fl.length := by have := HL.out; omega
      clear hax
      generalize fl.getD k 0 = x at *
      generalize exK xs fl j k = ex at *
      by_cases h1 : t = j
      · have HS2 := Lib.hid (show exK xs fl j (k + 1) = ex + x by rw [HST.out, if_pos h1])
        have hjb : (t == j) = true := by rw [beq_iff_eq]; exact h1
        have hjf : (f == j) = false := by rw [beq_eq_false_iff_ne]; exact fun e => hne (e.trans h1.symm)
        clear HST h1 hne
        go_wp2
        go_round
        case rel => exact ⟨k + 1, by omega, by go_num, by rw [HS2.out]⟩
        case measure => simp [intOf]; omega
      · have hjb : (t == j) = false := by rw [beq_eq_false_iff_ne]; exact h1
        by_cases h2 : f = j
        · have HS2 := Lib.hid (show exK xs fl j (k + 1) = ex - x by rw [HST.out, if_neg h1, if_pos h2])
          have hjf : (f == j) = true := by rw [beq_iff_eq]; exact h2
          clear HST h1 h2 hne
          go_wp2
          go_round
          case rel => exact ⟨k + 1, by omega, by go_num, by rw [HS2.out]⟩
          case measure => simp [intOf]; omega
        · have HS2 := Lib.hid (show exK xs fl j (k + 1) = ex by rw [HST.out, if_neg h1, if_neg h2])
          have hjf : (f == j) = false := by rw [beq_eq_false_iff_ne]; exact h2
          clear HST h1 h2 hne
          go_wp2
          go_round
          case rel => exact ⟨k + 1, by omega, by go_num, by rw [HS2.out]⟩
          case measure => simp [intOf]; omega
    · obtain rfl : k = xs.length := by omega
      go_wp2
      go_ret
      exact ⟨rfl, rfl⟩
set_option maxRecDepth 100000 in
theorem l07Balanced_any (bm om : Nat) (N : Nat) (A : Option Addr) (cp : Nat) (xs : List Aw) (AL : Option Addr) (cl : Nat) (fl : List Int) (B : Nat) (w : World) (hN : N ≤ 16) (hn : xs.length ≤ 24) (hI : Recs encA 7 B w A xs) (hL : Ints B w AL fl) (hl : fl.length = xs.length) (hfb : ∀ i, i < xs.length → -100000 ≤ fl.getD i 0 ∧ fl.getD i 0 ≤ 100000) (hne : ∀ i, i < xs.length → (xs.getD i aNone).f ≠ (xs.getD i aNone).t)
    (m0 : w.cell? ⟨bm, om, none⟩ = some (.int .i64 (N : Int))) (mm : w.cell? ⟨bm, om + 1, none⟩ = some (.slice A xs.length cp)) :
    Calls Tryz.prog 122 #[.pointer (some ⟨bm, om, none⟩), .slice AL fl.length cl] w fun e w' => e = .returned (.bool (balB N xs fl)) ∧ w = w' := by
  obtain ⟨m, m1, m2, m3⟩ := first_stop (fun j => decide (exK xs fl (j : Int) xs.length = 0)) N
  obtain ⟨R, hR⟩ : ∃ R, R = balB N xs fl := ⟨_, rfl⟩
  rw [← hR]
  have HR : Hid (R = decide (m = N)) := Lib.hid (by rw [hR]; unfold balB; rw [allUp_stop m1 m2 m3])
  have M2 := Lib.hid m2
  have M3 := Lib.hid m3
  have HC := Lib.hid (fun (j : Int) => l07Excess_any bm om A cp xs AL cl fl j B w hn hI hL hl hfb hne mm)
  clear hI hL hl hfb m2 m3 hR hne mm
  go_enter Tryz.func122, Tryz.ntmps122
  go_wp2
  go_loop [5] (fun ii => ∃ k : Nat, k ≤ m ∧ ii = .int .i64 k) (fun ii => N - (intOf ii).toNat)
  case atStart => exact ⟨0, Nat.zero_le _, rfl⟩
  case round =>
    obtain ⟨k, hk, rfl⟩ := hrel
    by_cases hlt : k < N
    · have HCk := Lib.hid (HC.out (k : Int))
      by_cases hkm : k < m
      · have hz : exK xs fl (k : Int) xs.length = 0 := of_decide_eq_true (M2.out k hkm)
        rw [hz] at HCk
        clear hz
        go_wp2_with fail
        refine HCk.out.mono ?_
        rintro e w2 ⟨rfl, rfl⟩
        go_wp2
        go_round
        case rel => exact ⟨k + 1, by omega, by go_num⟩
        case measure => simp [intOf]; omega
      · obtain rfl : m = k := by omega
        have hz : ¬ exK xs fl (m : Int) xs.length = 0 := of_decide_eq_false (M3.out hlt)
        have HD := Lib.hid (decide_eq_false (show ¬ m = N by omega))
        generalize exK xs fl (m : Int) xs.length = x at *
        have hxb : (x != 0) = true := by simpa using hz
        clear hz
        go_wp2_with fail
        refine HCk.out.mono ?_
        rintro e w2 ⟨rfl, rfl⟩
        go_wp2
        go_ret
        exact ⟨ret_bool (by rw [HR.out, HD.out]), rfl⟩
    · have HD := Lib.hid (decide_eq_true (show m = N by omega))
      obtain rfl : k = N := by omega
      go_wp2
      go_ret
      exact ⟨ret_bool (by rw [HR.out, HD.out]), rfl⟩
end Go.Proofs.YtejkoicgbgoiaaaGreat

/- Networks: the labels of parts, by the reference. Conditions: the facts on memory and on lengths that each theorem names. -/
namespace Go.Proofs.YtejkoicgbgoiaaaGreat
open Go.RowKit
open Pl
theorem upto_succ (n : Nat) : upto (n + 1) = upto n ++ [(n : Int)] := by unfold upto; rw [List.range_succ, List.map_append]; rfl
/-- The first j labels turned. -/
def relN (d : List Int) (hi lo : Int) : Nat → List Int | 0 => d | j + 1 => if (relN d hi lo j).getD j 0 = hi then (relN d hi lo j).set j lo else relN d hi lo j
theorem relN_length (d : List Int) (hi lo : Int) : ∀ j, (relN d hi lo j).length = d.length
  | 0 => rfl
  | j + 1 => by unfold relN; split; (rw [List.length_set]; exact relN_length d hi lo j); exact relN_length d hi lo j
theorem relN_get (d : List Int) (hi lo : Int) : ∀ j, j ≤ d.length → ∀ i, i < d.length → (relN d hi lo j).getD i 0 = if i < j ∧ d.getD i 0 = hi then lo else d.getD i 0
  | 0, _, i, _ => by rw [if_neg (by omega)]; rfl
  | j + 1, hj, i, hi' => by
    have ih := relN_get d hi lo j (by omega)
    have e : relN d hi lo (j + 1) = if (relN d hi lo j).getD j 0 = hi then (relN d hi lo j).set j lo else relN d hi lo j := rfl
    have ej := ih j (by omega)
    rw [if_neg (show ¬ (j < j ∧ d.getD j 0 = hi) by omega)] at ej
    rw [e, ej]
    by_cases h : d.getD j 0 = hi
    · rw [if_pos h, getD_set _ _ _ _ (by rw [relN_length]; omega), ih i hi']
      by_cases e2 : i = j
      · subst e2; rw [if_pos rfl, if_pos ⟨by omega, h⟩]
      · rw [if_neg e2]
        by_cases e3 : i < j ∧ d.getD i 0 = hi
        · rw [if_pos e3, if_pos ⟨by omega, e3.2⟩]
        · rw [if_neg e3, if_neg (fun c => e3 ⟨by omega, c.2⟩)]
    · rw [if_neg h, ih i hi']
      by_cases e3 : i < j ∧ d.getD i 0 = hi
      · rw [if_pos e3, if_pos ⟨by omega, e3.2⟩]
      · rw [if_neg e3, if_neg]
        rintro ⟨c1, c2⟩
        by_cases e2 : i = j
        · subst e2; exact h c2
        · exact e3 ⟨by omega, c2⟩
theorem ext_getD {a b : List Int} (hl : a.length = b.length) (h : ∀ i, i < a.length → a.getD i 0 = b.getD i 0) : a = b := by
  refine List.ext_getElem hl (fun i h1 h2 => ?_)
  have := h i h1
  rw [getD_pt h1, getD_pt h2] at this
  exact this
theorem relN_all (d : List Int) (e : Ed) : relN d (mx (d.getD e.f.toNat 0) (d.getD e.t.toNat 0)) (mn (d.getD e.f.toNat 0) (d.getD e.t.toNat 0)) d.length = relab d e := by
  refine ext_getD (by rw [relN_length]; unfold relab; rw [List.length_map]) (fun i hi => ?_)
  rw [relN_length] at hi
  rw [relN_get _ _ _ _ (Nat.le_refl _) i hi]
  unfold relab
  rw [getD_map _ (0 : Int) _ hi]
  by_cases h : d.getD i 0 = mx (d.getD e.f.toNat 0) (d.getD e.t.toNat 0)
  · rw [if_pos ⟨hi, h⟩, if_pos h]
  · rw [if_neg (fun c => h c.2), if_neg h]
set_option maxRecDepth 100000 in
set_option maxHeartbeats 3200000 in
theorem l04Parts_any (bm om : Nat) (N : Nat) (A : Option Addr) (cp : Nat) (xs : List Aw) (AE : Option Addr) (ce : Nat) (es : List Int) (w : World) (hI : Recs encA 7 w.heap.size w A xs) (hm : mineB (N : Int) xs = true) (hE : Ints w.heap.size w AE es) (hok : IdxOk xs.length es) (hel : es.length ≤ 24)
    (m0 : w.cell? ⟨bm, om, none⟩ = some (.int .i64 (N : Int))) (mm : w.cell? ⟨bm, om + 1, none⟩ = some (.slice A xs.length cp)) :
    Calls Tryz.prog 169 #[.pointer (some ⟨bm, om, none⟩), .slice AE es.length ce] w fun e w' => ∃ u, e = .returned u ∧ Own w.heap.size w' u (partsK N (edsA xs es) es.length) ∧ Below w.heap.size w w' := by
  obtain ⟨⟨n1, n2⟩, nx, _⟩ := mineB_bd hm
  have HE := Lib.hid (fun p (hp : p < xs.length) => mine_ends hm hp)
  have HK := Lib.hid hok
  have HPL := Lib.hid (partsK_length N (edsA xs es))
  have J0 := Lib.hid hI
  have JE := Lib.hid hE
  have hbm : bm < w.heap.size := World.block_lt_of_cell? _ _ m0
  have hN1 : 1 ≤ N := by omega
  have hN2 : N ≤ 16 := by omega
  have hxn : xs.length ≤ 24 := by omega
  obtain ⟨i0, hi, hz0, hz1, hz2⟩ := info_parts infoI
  have HF := Lib.hid (And.intro hi (And.intro hz0 (And.intro hz1 hz2)))
  have M0 := Lib.hid m0
  have M1 := Lib.hid mm
  clear hI hm hE hok n1 n2 nx hi hz0 hz1 hz2 m0 mm
  go_enter Tryz.func169, Tryz.ntmps169
  go_wp2
  go_loopw [5, 6] (fun u ii wr => ∃ q : Nat, q ≤ N ∧ ii = .int .i64 q ∧ Below w.heap.size w wr ∧ Own w.heap.size wr u (upto q)) (fun _ ii _ => N - (intOf ii).toNat)
  case atStart => exact ⟨0, Nat.zero_le _, rfl, (Below.refl _ _).alloc (Nat.le_refl _) _, Own.empty (Nat.le_refl _)⟩
  case round =>
    obtain ⟨q, hq, rfl, hb, ho⟩ := hrel
    have m0 := cell_later hb M0.out
    have m1 := cell_later hb M1.out
    have hsz := hb.size
    by_cases hlt : q < N
    · have HO := Lib.hid ho
      have hl : (upto q).length ≤ 16 := by rw [upto_length]; omega
      have HS := Lib.hid (upto_succ q)
      clear ho
      go_wp2_with (at_builtin; refine wpList_append_own_at _ rfl _ _ 25 rfl w.heap.size 2 i0 (.int .i64 0) 1 8 Tryz.underlying25 HF.out.1 HF.out.2.1 HF.out.2.2.1 HF.out.2.2.2 rfl (by decide) _ _ _ rfl (HO.out.later ((Below.refl _ _).alloc (Nat.le_refl _) _)) ⟨wr.heap.size, 0, none⟩ 1 1 [.int .i64 (q : Int)] rfl rfl (cell_one_new _ _ _) (by intro u hu; simp at hu; subst hu; rfl) (le_max (by omega)) (by omega) (by simp; omega) ?_; intro av aw ah ag an aa)
      have hbe2 : Below w.heap.size w aw := Below.appended hb HO.out hsz ag
      have ho' := Own.appended ah
      clear ah ag an aa
      have HO3 := Lib.hid ho'
      clear ho'
      go_wp2
      go_roundw
      case rel => exact ⟨q + 1, by omega, by go_num, hbe2, by rw [HS.out]; exact HO3.out⟩
      case measure => simp [intOf]; omega
    · obtain rfl : q = N := by omega
      obtain ⟨AV, cv, hv, -, -⟩ := ho.slice
      rw [upto_length] at hv
      subst hv
      obtain ⟨g, rfl, hg1, hrow⟩ := ho.row (n := q) (by omega) (upto_length q)
      have HRow := Lib.hid hrow
      have HBw := Lib.hid hb
      obtain ⟨wq, hwq⟩ : ∃ wq : World, wq = wr := ⟨_, rfl⟩
      subst hwq
      clear ho hrow
      go_wp2
      go_loopw [7] (fun kk wo => ∃ (r : Nat), r ≤ es.length ∧ kk = .int .i64 r ∧ Below w.heap.size w wo ∧ wo.ownsRow w.heap.size 2 1 (.slice (some ⟨g, 0, none⟩) q cv) q (vals (partsK q (edsA xs es) r))) (fun kk _ => es.length - (intOf kk).toNat)
      case atStart => exact ⟨0, Nat.zero_le _, rfl, HBw.out, HRow.out⟩
      case round =>
        obtain ⟨r, hr, rfl, hb2, hown⟩ := hrel
        have m0 := cell_later hb2 M0.out
        have m1 := cell_later hb2 M1.out
        obtain ⟨wo, hwo⟩ : ∃ wo : World, wo = wr := ⟨_, rfl⟩
        subst hwo
        by_cases hlt2 : r < es.length
        · obtain ⟨p, hp, hpx⟩ := HK.out r hlt2
          obtain ⟨F, T, hF, hT, hFN, hTN, _⟩ := HE.out p hpx
          have hsz2 := hb2.size
          obtain ⟨ad, hAE, _, ce0⟩ := (JE.out.below hb2).atD hlt2
          rw [hp] at ce0
          subst hAE
          obtain ⟨⟨s, f, t, l, c, rr, k⟩, hx⟩ : ∃ x, xs.getD p aNone = x := ⟨_, rfl⟩
          obtain ⟨b, o, hA, hab, -, c1, c2, -⟩ := (J0.out.below hb2).cells7 hpx hx
          subst hA
          have hed : (edsA xs es).getD r eNone = ⟨(p : Int), (F : Int), (T : Int)⟩ := by
            rw [edsA_get hlt2]; unfold edA; rw [hp, Int.toNat_natCast, hF, hT]
          rw [hx] at hF hT
          have hF : f = (F : Int) := hF
          have hT : t = (T : Int) := hT
          subst hF hT
          have hdl := HPL.out r
          have HNX : Hid (∀ d : List Int, d = partsK q (edsA xs es) r → relN d (mx (d.getD F 0) (d.getD T 0)) (mn (d.getD F 0) (d.getD T 0)) q = partsK q (edsA xs es) (r + 1)) := Lib.hid (by
            rintro d rfl
            have h := relN_all (partsK q (edsA xs es) r) ((edsA xs es).getD r eNone)
            rw [hdl] at h
            rw [hed] at h
            have h' : relab (partsK q (edsA xs es) r) ((edsA xs es).getD r eNone) = partsK q (edsA xs es) (r + 1) := rfl
            rw [hed] at h'
            rw [← h', ← h]
            simp)
          obtain ⟨d, hd⟩ : ∃ d, d = partsK q (edsA xs es) r := ⟨_, rfl⟩
          have HNX := Lib.hid (HNX.out d hd)
          rw [← hd] at hown hdl
          clear hd hed hx hp
          have hcf := row_cell hown hdl hFN
          have hct := row_cell hown hdl hTN
          have HOW := Lib.hid hown
          have HDL := Lib.hid hdl
          have i0' : (0 : Int) ≤ (r : Int) := by omega
          have i1' : (r : Int) < es.length := by omega
          have p0 : (0 : Int) ≤ (p : Int) := by omega
          have p1 : (p : Int) < xs.length := by omega
          have hF0 : (0 : Int) ≤ (F : Int) := by omega
          have hF1 : (F : Int) < q := by omega
          have hT0 : (0 : Int) ≤ (T : Int) := by omega
          have hT1 : (T : Int) < q := by omega
          generalize d.getD F 0 = x at *
          generalize d.getD T 0 = y at *
          have HMN := Lib.hid (fun W => l00Min_any x y W)
          have HMX := Lib.hid (fun W => l00Max_any x y W)
          generalize mn x y = lo at *
          generalize mx x y = hi at *
          clear hown hdl
          go_wp2
          go_big_quiet (fail)
          go_wp2
          go_big_quiet ((go_at_call 151; first | (with_reducible exact quiet_s (HMN.out _)) | (with_reducible exact quiet_s2 (HMN.out _))))
          go_wp2
          go_big_quiet ((go_at_call 141; first | (with_reducible exact quiet_s (HMX.out _)) | (with_reducible exact quiet_s2 (HMX.out _))))
          go_wp2
          go_loopw [11] (fun jj wi => ∃ j : Nat, j ≤ q ∧ jj = .int .i64 j ∧ Below w.heap.size w wi ∧ wi.ownsRow w.heap.size 2 1 (.slice (some ⟨g, 0, none⟩) q cv) q (vals (relN d hi lo j))) (fun jj _ => q - (intOf jj).toNat)
          case atStart => exact ⟨0, Nat.zero_le _, rfl, below_drewN (below_drewN (below_drewN hb2 _) _) _, drewN_row (drewN_row (drewN_row HOW.out _) _) _⟩
          case round =>
            obtain ⟨j, hj, rfl, hb3, hown3⟩ := hrel
            by_cases hjl : j < q
            · have hl3 : (relN d hi lo j).length = q := by rw [relN_length]; exact HDL.out
              have hcj := row_cell hown3 hl3 hjl
              have hfz := row_free hown3 j
              have j0 : (0 : Int) ≤ (j : Int) := by omega
              have j1 : (j : Int) < q := by omega
              have HST : Hid (relN d hi lo (j + 1) = if (relN d hi lo j).getD j 0 = hi then (relN d hi lo j).set j lo else relN d hi lo j) := Lib.hid rfl
              have HO3 := Lib.hid hown3
              generalize (relN d hi lo j).getD j 0 = z at *
              clear hown3 hl3
              by_cases hz : z = hi
              · have hzb : (z == hi) = true := by rw [beq_iff_eq]; exact hz
                have HST := Lib.hid (show relN d hi lo (j + 1) = (relN d hi lo j).set j lo by rw [HST.out, if_pos hz])
                clear hz
                go_wp2
                go_roundw
                case rel =>
                  refine ⟨j + 1, by omega, by go_num, ?_⟩
                  rw [HST.out]
                  exact fit_set ⟨hb3, HO3.out⟩ hg1 _ _
                case measure => simp [intOf]; omega
              · have hzb : (z == hi) = false := by rw [beq_eq_false_iff_ne]; exact hz
                have HST := Lib.hid (show relN d hi lo (j + 1) = relN d hi lo j by rw [HST.out, if_neg hz])
                clear hz
                go_wp2
                go_roundw
                case rel =>
                  refine ⟨j + 1, by omega, by go_num, hb3, ?_⟩
                  rw [HST.out]
                  exact HO3.out
                case measure => simp [intOf]; omega
            · obtain rfl : j = q := by omega
              have HO3 := Lib.hid hown3
              clear hown3
              go_wp2
              go_roundw
              case rel => exact ⟨r + 1, by omega, by go_num, hb3, by rw [← HNX.out]; exact HO3.out⟩
              case measure => simp [intOf]; omega
        · obtain rfl : r = es.length := by omega
          have HOO : Hid (Own w.heap.size wo (.slice (some ⟨g, 0, none⟩) q cv) (partsK q (edsA xs es) es.length)) := Lib.hid (Own.of_row hown (HPL.out _) hg1)
          clear hown
          go_wp2
          go_ret
          exact ⟨_, rfl, HOO.out, hb2⟩
end Go.Proofs.YtejkoicgbgoiaaaGreat

/- Networks: the spanning forest, by the reference. Conditions: the facts on memory and on lengths that each theorem names. -/
namespace Go.Proofs.YtejkoicgbgoiaaaGreat
open Go.RowKit
open Pl
/-- The airways, among the first k, that join parts which are not joined yet. -/
def treeL (N : Nat) (xs : List Aw) : Nat → List Int
  | 0 => []
  | k + 1 => if lab N (edsA xs (treeL N xs k)) (xs.getD k aNone).f = lab N (edsA xs (treeL N xs k)) (xs.getD k aNone).t then treeL N xs k else treeL N xs k ++ [(k : Int)]
def forest (N : Nat) (xs : List Aw) : List Int := treeL N xs xs.length
theorem treeL_length (N : Nat) (xs : List Aw) : ∀ k, (treeL N xs k).length ≤ k
  | 0 => Nat.le_refl _
  | k + 1 => by have := treeL_length N xs k; unfold treeL; split; omega; simp; omega
theorem treeL_ok (N : Nat) (xs : List Aw) : ∀ k, IdxOk k (treeL N xs k)
  | 0 => fun i h => by simp [treeL] at h
  | k + 1 => by
    have ih := treeL_ok N xs k
    intro i hi
    unfold treeL at hi ⊢
    split at hi
    · rename_i hc
      rw [if_pos hc]
      obtain ⟨p, e, hp⟩ := ih i hi
      exact ⟨p, e, by omega⟩
    · rename_i hc
      rw [if_neg hc]
      by_cases e : i < (treeL N xs k).length
      · obtain ⟨p, e2, hp⟩ := ih i e
        exact ⟨p, by rw [getD_app e]; exact e2, by omega⟩
      · have e : i = (treeL N xs k).length := by simp at hi; omega
        subst e
        exact ⟨k, getD_last, by omega⟩
theorem IdxOk.more {n n' : Nat} {es : List Int} (h : IdxOk n es) (hn : n ≤ n') : IdxOk n' es := fun i hi => by
  obtain ⟨p, e, hp⟩ := h i hi
  exact ⟨p, e, by omega⟩
set_option maxRecDepth 100000 in
set_option maxHeartbeats 3200000 in
theorem l04Tree_any (bm om : Nat) (N : Nat) (A : Option Addr) (cp : Nat) (xs : List Aw) (w : World) (hI : Recs encA 7 w.heap.size w A xs) (hm : mineB (N : Int) xs = true)
    (m0 : w.cell? ⟨bm, om, none⟩ = some (.int .i64 (N : Int))) (mm : w.cell? ⟨bm, om + 1, none⟩ = some (.slice A xs.length cp)) :
    Calls Tryz.prog 143 #[.pointer (some ⟨bm, om, none⟩)] w fun e w' => ∃ u, e = .returned u ∧ Own w.heap.size w' u (forest N xs) ∧ Below w.heap.size w w' := by
  obtain ⟨⟨n1, n2⟩, nx, _⟩ := mineB_bd hm
  have HE := Lib.hid (fun p (hp : p < xs.length) => mine_ends hm hp)
  have HM := Lib.hid hm
  have J0 := Lib.hid hI
  have hN1 : 1 ≤ N := by omega
  have hN2 : N ≤ 16 := by omega
  have hxn : xs.length ≤ 24 := by omega
  obtain ⟨i0, hi, hz0, hz1, hz2⟩ := info_parts infoI
  have HF := Lib.hid (And.intro hi (And.intro hz0 (And.intro hz1 hz2)))
  have M0 := Lib.hid m0
  have M1 := Lib.hid mm
  clear hI hm n1 n2 nx hi hz0 hz1 hz2 m0 mm
  go_enter Tryz.func143, Tryz.ntmps143
  go_wp2
  go_loopw [3, 4] (fun u ii wr => ∃ q : Nat, q ≤ xs.length ∧ ii = .int .i64 q ∧ Below w.heap.size w wr ∧ Own w.heap.size wr u (treeL N xs q)) (fun _ ii _ => xs.length - (intOf ii).toNat)
  case atStart => exact ⟨0, Nat.zero_le _, rfl, (Below.refl _ _).alloc (Nat.le_refl _) _, Own.empty (Nat.le_refl _)⟩
  case round =>
    obtain ⟨q, hq, rfl, hb, ho⟩ := hrel
    have m0 := cell_later hb M0.out
    have m1 := cell_later hb M1.out
    have hsz := hb.size
    by_cases hlt : q < xs.length
    · obtain ⟨F, T, hF, hT, hFN, hTN, _⟩ := HE.out q hlt
      have htl := treeL_length N xs q
      have hS : treeL N xs (q + 1) = if (partsK N (edsA xs (treeL N xs q)) (treeL N xs q).length).getD F 0 = (partsK N (edsA xs (treeL N xs q)) (treeL N xs q).length).getD T 0 then treeL N xs q else treeL N xs q ++ [(q : Int)] := by
        have e : treeL N xs (q + 1) = if lab N (edsA xs (treeL N xs q)) (xs.getD q aNone).f = lab N (edsA xs (treeL N xs q)) (xs.getD q aNone).t then treeL N xs q else treeL N xs q ++ [(q : Int)] := rfl
        rw [e, hF, hT]
        unfold lab labK
        rw [edsA_length, Int.toNat_natCast, Int.toNat_natCast]
      have HS := Lib.hid hS
      obtain ⟨AV, cv, hv, hiv, -⟩ := ho.slice
      have HP := Lib.hid (l04Parts_any bm om N A cp xs AV cv (treeL N xs q) wr ((J0.out.below hb).more hb.size) HM.out hiv ((treeL_ok N xs q).more hq) (by omega) m0 m1)
      have HPL := Lib.hid (partsK_length N (edsA xs (treeL N xs q)) (treeL N xs q).length)
      obtain ⟨⟨s, f, t, l, c, rr, k⟩, hx⟩ : ∃ x, xs.getD q aNone = x := ⟨_, rfl⟩
      obtain ⟨b, o, hA, hab, -, c1, c2, -⟩ := (J0.out.below hb).cells7 hlt hx
      subst hA
      rw [hx] at hF hT
      have hF : f = (F : Int) := hF
      have hT : t = (T : Int) := hT
      subst hF hT
      generalize hp : partsK N (edsA xs (treeL N xs q)) (treeL N xs q).length = ps at *
      generalize treeL N xs q = tr at *
      have HO := Lib.hid ho
      have i0' : (0 : Int) ≤ (q : Int) := by omega
      have i1' : (q : Int) < xs.length := by omega
      have hF0 : (0 : Int) ≤ (F : Int) := by omega
      have hF1 : (F : Int) < N := by omega
      have hT0 : (0 : Int) ≤ (T : Int) := by omega
      have hT1 : (T : Int) < N := by omega
      subst hv
      clear ho hS hp hx hiv
      go_wp2_with fail
      refine HP.out.mono ?_
      rintro e w2 ⟨u2, rfl, ho2, hb2⟩
      have m0 := cell_later hb2 m0
      have m1 := cell_later hb2 m1
      have c1 := cell_later hb2 c1
      have c2 := cell_later hb2 c2
      obtain ⟨A2, cv2, hv2, -, -⟩ := ho2.slice
      rw [HPL.out] at hv2
      subst hv2
      obtain ⟨g, rfl, hg1, hrow⟩ := ho2.row (n := N) (by omega) HPL.out
      have hcf := row_cell hrow HPL.out hFN
      have hct := row_cell hrow HPL.out hTN
      have hbw : Below w.heap.size w w2 := hb.trans (hb2.mono hb.size)
      have HO2 := Lib.hid (HO.out.later hb2)
      generalize ps.getD F 0 = x at *
      generalize ps.getD T 0 = y at *
      clear ho2 hrow HP
      by_cases hxy : x = y
      · have hxb : (x != y) = false := by rw [hxy]; simp
        have HS := Lib.hid (show treeL N xs (q + 1) = tr by rw [HS.out, if_pos hxy])
        clear hxy
        go_wp2
        go_big_quiet (fail)
        go_wp2
        go_roundw
        case rel => exact ⟨q + 1, by omega, by go_num, below_drewN hbw _, by rw [HS.out]; exact HO2.out.later (below_drewN (Below.refl _ _) _)⟩
        case measure => simp [intOf]; omega
      · have hxb : (x != y) = true := by simpa using hxy
        have HS := Lib.hid (show treeL N xs (q + 1) = tr ++ [(q : Int)] by rw [HS.out, if_neg hxy])
        clear hxy
        go_wp2
        go_big_quiet (fail)
        have hb3 := below_drewN hbw nq
        have HO3 := Lib.hid (HO2.out.later (below_drewN (Below.refl _ _) nq))
        have hsz3 := hb3.size
        clear c1 c2 hcf hct
        generalize w2.drewN nq = wd at *
        go_wp2_with (at_builtin; refine wpList_append_own_at _ rfl _ _ 25 rfl w.heap.size 2 i0 (.int .i64 0) 1 8 Tryz.underlying25 HF.out.1 HF.out.2.1 HF.out.2.2.1 HF.out.2.2.2 rfl (by decide) _ _ _ rfl (HO3.out.later ((Below.refl _ _).alloc (Nat.le_refl _) _)) ⟨wd.heap.size, 0, none⟩ 1 1 [.int .i64 (q : Int)] rfl rfl (cell_one_new _ _ _) (by intro u hu; simp at hu; subst hu; rfl) (le_max (by omega)) (by omega) (by simp; omega) ?_; intro av aw ah ag an aa)
        have hbe2 : Below w.heap.size w aw := Below.appended hb3 HO3.out hsz3 ag
        have ho' := Own.appended ah
        clear ah ag an aa
        have HO4 := Lib.hid ho'
        clear ho'
        go_wp2
        go_roundw
        case rel => exact ⟨q + 1, by omega, by go_num, hbe2, by rw [HS.out]; exact HO4.out⟩
        case measure => simp [intOf]; omega
    · obtain rfl : q = xs.length := by omega
      have HO := Lib.hid ho
      clear ho
      go_wp2
      go_ret
      exact ⟨_, rfl, HO.out, hb⟩
end Go.Proofs.YtejkoicgbgoiaaaGreat
