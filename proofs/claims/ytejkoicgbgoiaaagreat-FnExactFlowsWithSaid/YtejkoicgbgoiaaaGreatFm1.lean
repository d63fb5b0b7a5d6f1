/- Proved here: the parts Frame, Frame2, Plain, Base, List, Res, Clone, Later, Hof, Quiet, Up, Nest, Frame4, Dust of the row's proof, joined by a program. Conditions: as each part says. -/
import Derived.Test.YtejkoicgbgoiaaaGreatRows
import Derived.WalkKit
import Derived.ProofKit
import Derived.OpenShut
import Derived.Carry
import Derived.Lib.SmallJoins
import Derived.Deep.Slices
import Derived.Deep.Fields
import Derived.RowKit
import Derived.WalkLawsBesides
import Derived.Deep.QuietTactic
import Derived.BigQuiet
import Derived.Handy
import Derived.Lib.Hide
import Derived.OwnWalk
import Derived.Maps.AppendAt
import Derived.Laws.OwnMore
import Derived.Deep.AppendLies
import Derived.Lib.SliceRun
import Derived.WalkSpells
import Derived.Deep.LoopGhost
import Derived.Shelf.Abstract
import Derived.IntWalk
import Derived.Deep.Matrix
/- What the rows of this seat have in common: a law that returns true and leaves all that was in memory as it was meets its row; and how an argument of each shape opens. -/
namespace Go.Proofs.YtejkoicgbgoiaaaGreat
open Go.ChangeShapes Go.WideShapes Go.ChangeAt Go.RowKit

theorem own : ownKnob Tryz.prog.godebug = none := by kernel_rfl
theorem laidOut : laidOutB Tryz.prog = true := by kernel_rfl

section
variable {H : Type} {enc : TypeId × Value → H} {P : Program}

/-- All arguments read behind the call as they read before it, if nothing below the old heap's end has turned. -/
theorem trodAll_later (hl : laidOutB P = true) {W W' : World} (hb : Below W.heap.size W W') {sp' : Nat → Bool} :
    ∀ {ts : List TypeId} {vs : List Value} {ds : List (DataW H)} {ps : List MemPlace}, (∀ t ∈ ts, P.readableRec t = true ∧ t < P.types.size) →
      DataW.TrodAll enc P W 0 (fun _ => true) true ts vs ds ps → (∀ p ∈ ps, p.block < W.heap.size) → (∀ p ∈ ps, sp' p.block = true) →
      DataW.TrodAll enc P W' 0 sp' true ts vs ds ps
  | [], _, _, _, _, h, _, _ => by
    obtain ⟨rfl, rfl, rfl⟩ := trodAll_nil h
    exact trodAll_mk0
  | t :: ts, _, _, _, hr, h, hlt, hs => by
    obtain ⟨v, vs, d, ds, p, q, rfl, rfl, rfl, h1, h2⟩ := trodAll_cons h
    refine trodAll_cons_mk ?_ (trodAll_later hl hb (fun t ht => hr t (List.mem_cons_of_mem _ ht)) h2 (fun x hx => hlt x (List.mem_append_right _ hx)) (fun x hx => hs x (List.mem_append_right _ hx)))
    have h0 := hr t List.mem_cons_self
    exact WideElems.Trod_stays hl h0.1 h0.2 h1 (fun x hx => hb.same (hlt x (List.mem_append_left _ hx))) (fun x hx => hs x (List.mem_append_left _ hx))

/-- The row's step: the call returned true, and nothing below the old heap's end has turned. -/
theorem post_true {f : Func} {s : ChangeSpec} {W W' : World} {args : Array Value} {ds gs : List (DataW H)} {before : List MemPlace} {tb : TypeId}
    (hW : DataW.Whole enc P f.params.toList s.vars false W args.toList ds gs before) (hv : s.vars = []) (hl : laidOutB P = true)
    (hr : ∀ t ∈ f.params.toList, P.readableRec t = true ∧ t < P.types.size) (hrt : f.resultTypes = #[tb]) (htb : P.underlying tb = some .bool)
    (hs : s.fn H (ds ++ []) = { results := [.lit (.bool true)], args := ds, vars := [] }) (hb : Below W.heap.size W W') :
    s.post enc P f false true false false W args (.bool true) W' := by
  have hlt : ∀ p ∈ before, p.block < W.heap.size := fun p hp => hW.lt p hp
  have hW0 := hW
  obtain ⟨pa, pv, hA, hV, hps, hz, hn⟩ := hW
  rw [hv] at hV
  obtain ⟨rfl, rfl⟩ := trodVars_none hV
  rw [List.append_nil] at hps
  subst hps
  have hargs : ∀ sp : Nat → Bool, (∀ p ∈ before, sp p.block = true) → DataW.TrodAll enc P W' 0 sp true f.params.toList args.toList (s.fn H (ds ++ [])).args before := by
    intro sp hsp
    rw [hs]
    exact trodAll_later hl hb hr hA hlt hsp
  have hold : ∀ p ∈ before, (fun b => decide (b < W.heap.size)) p.block = true := fun p hp => by simpa using hlt p hp
  have hres : ∀ (b : Nat) (sp : Nat → Bool) (hd : Bool), DataW.TrodAll enc P W' b sp hd f.resultTypes.toList ((Value.bool true).resultList f.resultTypes.size) (s.fn H (ds ++ [])).results [] := by
    intro b sp hd
    rw [hs, hrt]
    exact trodAll_mk1 (shut_bool htb true)
  have hvars : ∀ sp : Nat → Bool, DataW.TrodVars enc P W' sp s.vars (s.fn H (ds ++ [])).vars [] := by
    intro sp
    rw [hs, hv]
    rfl
  refine ⟨ds, [], before, [], before, [], hW0, hres _ _ _, hargs _ hold, hvars _, World.keptBut_mono (fun p hp => ⟨hp, Or.inr (Or.inl hp)⟩) (hb.frame (· ∈ before)), fun h => by cases h⟩
end

/-! ### A slice that reads as a list of numbers, nil let in -/
/-- 'Ints B w A xs': the cells from address A on hold the numbers xs, in a block below B. -/
def Ints (B : Nat) (w : World) (A : Option Addr) (xs : List Int) : Prop := 0 < xs.length → ∃ ad, A = some ad ∧ ad.block < B ∧ ∀ k (h : k < xs.length), w.cell? (ad.add k) = some (.int .i64 xs[k])
/-- 'Bools B w A xs': the same of truth values. -/
def Bools (B : Nat) (w : World) (A : Option Addr) (xs : List Bool) : Prop := 0 < xs.length → ∃ ad, A = some ad ∧ ad.block < B ∧ ∀ k (h : k < xs.length), w.cell? (ad.add k) = some (.bool xs[k])

theorem block_add (a : Addr) (n : Nat) : (a.add n).block = a.block := by unfold Addr.add; split <;> rfl

theorem Ints.nil {B : Nat} {w : World} {A : Option Addr} : Ints B w A [] := fun h => by simp at h
theorem Ints.below {B : Nat} {w w' : World} {A : Option Addr} {xs : List Int} (h : Ints B w A xs) (hb : Below B w w') : Ints B w' A xs := by
  intro hn
  obtain ⟨ad, e, hlt, hc⟩ := h hn
  exact ⟨ad, e, hlt, fun k hk => (hb.cell (by rw [block_add]; exact hlt)).trans (hc k hk)⟩
theorem Ints.more {B B' : Nat} {w : World} {A : Option Addr} {xs : List Int} (h : Ints B w A xs) (hB : B ≤ B') : Ints B' w A xs := by
  intro hn
  obtain ⟨ad, e, hlt, hc⟩ := h hn
  exact ⟨ad, e, by omega, hc⟩
theorem Ints.at_ {B : Nat} {w : World} {A : Option Addr} {xs : List Int} (h : Ints B w A xs) {k : Nat} (hk : k < xs.length) : ∃ ad, A = some ad ∧ ad.block < B ∧ w.cell? (ad.add k) = some (.int .i64 xs[k]) := by
  obtain ⟨ad, e, hb, hc⟩ := h (by omega)
  exact ⟨ad, e, hb, hc k hk⟩
theorem Bools.below {B : Nat} {w w' : World} {A : Option Addr} {xs : List Bool} (h : Bools B w A xs) (hb : Below B w w') : Bools B w' A xs := by
  intro hn
  obtain ⟨ad, e, hlt, hc⟩ := h hn
  exact ⟨ad, e, hlt, fun k hk => (hb.cell (by rw [block_add]; exact hlt)).trans (hc k hk)⟩
theorem Bools.more {B B' : Nat} {w : World} {A : Option Addr} {xs : List Bool} (h : Bools B w A xs) (hB : B ≤ B') : Bools B' w A xs := by
  intro hn
  obtain ⟨ad, e, hlt, hc⟩ := h hn
  exact ⟨ad, e, by omega, hc⟩
theorem Bools.at_ {B : Nat} {w : World} {A : Option Addr} {xs : List Bool} (h : Bools B w A xs) {k : Nat} (hk : k < xs.length) : ∃ ad, A = some ad ∧ ad.block < B ∧ w.cell? (ad.add k) = some (.bool xs[k]) := by
  obtain ⟨ad, e, hb, hc⟩ := h (by omega)
  exact ⟨ad, e, hb, hc k hk⟩

/-- All numbers of a list fit int64. -/
def Fits (xs : List Int) : Prop := ∀ x ∈ xs, -9223372036854775808 ≤ x ∧ x ≤ 9223372036854775807

section
variable {H : Type} {enc : TypeId × Value → H} {P : Program} {W : World}
theorem row_head {a : Addr} {n : Nat} (hn : 0 < n) : MemPlace.cell a.block a.off ∈ MemPlace.row a n := by
  unfold MemPlace.row
  exact List.mem_map.2 ⟨0, List.mem_range.2 hn, by simp⟩
theorem open_ints_at {t e : TypeId} {r : Reach} {b0 : Nat} {v : Value} {d : DataW H} {ps : List MemPlace} (ht : P.underlying t = some (.slice e)) (he : P.underlying e = some (.int .i64)) (hc : P.cellsOf e = 1)
    (hval : Value.okWide P W r b0 t v) (h : DataW.Trod enc P W 0 (fun _ => true) true t v d ps) (hlt : ∀ p ∈ ps, p.block < W.heap.size) :
    ∃ (A : Option Addr) (c : Nat) (xs : List Int), v = .slice A xs.length c ∧ Ints W.heap.size W A xs ∧ Fits xs ∧ xs.length ≤ maxLen := by
  obtain ⟨a0, len, cap, rfl⟩ := okWide_slice ht hval
  obtain ⟨fuel, hf⟩ := h
  rcases open_ints ht he hc hf with ⟨hcs, _⟩ | ⟨a, len', cap', zs, hcs, _, hl, hm, hz, hx, hcell, hwz⟩
  · simp only [Value.cells, List.cons.injEq, Value.slice.injEq, and_true] at hcs
    obtain ⟨rfl, rfl, rfl⟩ := hcs
    exact ⟨none, 0, [], rfl, Ints.nil, by simp [Fits], by simp⟩
  · simp only [Value.cells, List.cons.injEq, Value.slice.injEq, and_true] at hcs
    obtain ⟨rfl, rfl, rfl⟩ := hcs
    rw [if_pos rfl] at hz
    have hlen : (zs.take len).length = len := by rw [List.length_take]; omega
    simp only [Prod.mk.injEq] at hx
    obtain ⟨_, rfl⟩ := hx
    refine ⟨some a, cap, zs.take len, by rw [hlen], ?_, fun x hx => bounds_i64 (hwz x (List.mem_of_mem_take hx)), by omega⟩
    intro hpos
    have hb : a.block < W.heap.size := hlt _ (row_head (n := zs.length) (by rw [List.length_take] at hpos; omega))
    refine ⟨a, rfl, hb, fun k hk => ?_⟩
    have hk' : k < zs.length := by rw [List.length_take] at hk; omega
    have := hcell k hk'
    rw [List.getElem_take, this]
    simp [List.getD, hk']
end
end Go.Proofs.YtejkoicgbgoiaaaGreat

/- More shapes of arguments: a struct of seven one-cell fields. No conditions. -/
namespace Go.Proofs.YtejkoicgbgoiaaaGreat
open Go.ChangeShapes Go.WideShapes Go.ChangeAt Go.RowKit Go.Joins Go.Deep
section
variable {H : Type} {enc : TypeId × Value → H} {P : Program} {w : World} {base : Nat} {spare : Nat → Bool} {held : Bool}
theorem array7 {α : Type} {cs : Array α} (h : cs.size = 7) : ∃ c0 c1 c2 c3 c4 c5 c6, cs = #[c0, c1, c2, c3, c4, c5, c6] := by
  obtain ⟨l⟩ := cs
  match l, h with
  | [c0, c1, c2, c3, c4, c5, c6], _ => exact ⟨c0, c1, c2, c3, c4, c5, c6, rfl⟩
theorem trod_struct7 {t : TypeId} {f0 f1 f2 f3 f4 f5 f6 : Field} {fuel : Nat} {cs : List Value} {x : DataW H × List MemPlace} (ht : P.underlying t = some (.struct #[f0, f1, f2, f3, f4, f5, f6])) (h : DataW.trod enc P w base spare held fuel t cs = some x) :
    ∃ y0 y1 y2 y3 y4 y5 y6 n, x = (.agg [y0.1, y1.1, y2.1, y3.1, y4.1, y5.1, y6.1], y0.2 ++ (y1.2 ++ (y2.2 ++ (y3.2 ++ (y4.2 ++ (y5.2 ++ (y6.2))))))) ∧ cs.length = P.cellsOf t ∧ DataW.trod enc P w base spare held n f0.type ((cs.drop f0.offset).take (P.cellsOf f0.type)) = some y0 ∧ DataW.trod enc P w base spare held n f1.type ((cs.drop f1.offset).take (P.cellsOf f1.type)) = some y1 ∧ DataW.trod enc P w base spare held n f2.type ((cs.drop f2.offset).take (P.cellsOf f2.type)) = some y2 ∧ DataW.trod enc P w base spare held n f3.type ((cs.drop f3.offset).take (P.cellsOf f3.type)) = some y3 ∧ DataW.trod enc P w base spare held n f4.type ((cs.drop f4.offset).take (P.cellsOf f4.type)) = some y4 ∧ DataW.trod enc P w base spare held n f5.type ((cs.drop f5.offset).take (P.cellsOf f5.type)) = some y5 ∧ DataW.trod enc P w base spare held n f6.type ((cs.drop f6.offset).take (P.cellsOf f6.type)) = some y6 := by
  obtain ⟨xs, n, _, rfl, hl, hlen, hf⟩ := DataW.trod_struct ht h
  match xs, hlen with
  | [y0, y1, y2, y3, y4, y5, y6], _ => exact ⟨y0, y1, y2, y3, y4, y5, y6, n, by simp, hl, by simpa using hf 0 f0 rfl, by simpa using hf 1 f1 rfl, by simpa using hf 2 f2 rfl, by simpa using hf 3 f3 rfl, by simpa using hf 4 f4 rfl, by simpa using hf 5 f5 rfl, by simpa using hf 6 f6 rfl⟩
theorem open_agg7 {r : Reach} {b0 : Nat} {t : TypeId} {f0 f1 f2 f3 f4 f5 f6 : Field} {v : Value} {d : DataW H} {p : List MemPlace} (hs : P.underlying t = some (.struct #[f0, f1, f2, f3, f4, f5, f6])) (hone : oneCellFields P #[f0, f1, f2, f3, f4, f5, f6] = true) (hC : P.cellsOf t = 7)
    (hv : Value.okWide P w r b0 t v) (h : DataW.Trod enc P w base spare held t v d p) :
    ∃ (v0 v1 v2 v3 v4 v5 v6 : Value) (y0 y1 y2 y3 y4 y5 y6 : DataW H × List MemPlace) (n : Nat), v = .agg #[v0, v1, v2, v3, v4, v5, v6] ∧ d = .agg [y0.1, y1.1, y2.1, y3.1, y4.1, y5.1, y6.1] ∧ p = y0.2 ++ (y1.2 ++ (y2.2 ++ (y3.2 ++ (y4.2 ++ (y5.2 ++ (y6.2)))))) ∧
      DataW.trod enc P w base spare held n f0.type [v0] = some y0 ∧ DataW.trod enc P w base spare held n f1.type [v1] = some y1 ∧ DataW.trod enc P w base spare held n f2.type [v2] = some y2 ∧ DataW.trod enc P w base spare held n f3.type [v3] = some y3 ∧ DataW.trod enc P w base spare held n f4.type [v4] = some y4 ∧ DataW.trod enc P w base spare held n f5.type [v5] = some y5 ∧ DataW.trod enc P w base spare held n f6.type [v6] = some y6 := by
  obtain ⟨cs, rfl, hsz⟩ := okWide_struct hs hv
  obtain ⟨c0, c1, c2, c3, c4, c5, c6, rfl⟩ := array7 (hsz.trans hC)
  obtain ⟨fuel, hf⟩ := h
  obtain ⟨y0, y1, y2, y3, y4, y5, y6, n, hx, _, h0, h1, h2, h3, h4, h5, h6⟩ := trod_struct7 hs hf
  obtain ⟨o0, k0⟩ := hone_of hone 0 f0 rfl
  obtain ⟨o1, k1⟩ := hone_of hone 1 f1 rfl
  obtain ⟨o2, k2⟩ := hone_of hone 2 f2 rfl
  obtain ⟨o3, k3⟩ := hone_of hone 3 f3 rfl
  obtain ⟨o4, k4⟩ := hone_of hone 4 f4 rfl
  obtain ⟨o5, k5⟩ := hone_of hone 5 f5 rfl
  obtain ⟨o6, k6⟩ := hone_of hone 6 f6 rfl
  simp only [Prod.mk.injEq] at hx
  exact ⟨c0, c1, c2, c3, c4, c5, c6, y0, y1, y2, y3, y4, y5, y6, n, rfl, hx.1, hx.2, by simpa [Value.cells, o0, k0] using h0, by simpa [Value.cells, o1, k1] using h1, by simpa [Value.cells, o2, k2] using h2, by simpa [Value.cells, o3, k3] using h3, by simpa [Value.cells, o4, k4] using h4, by simpa [Value.cells, o5, k5] using h5, by simpa [Value.cells, o6, k6] using h6⟩
end
end Go.Proofs.YtejkoicgbgoiaaaGreat

/- Plain arithmetic of the planner, with no program in sight: the test of a range, the nearest quotient, the quotient rounded up. No conditions beyond those that each lemma names. -/
namespace Go.Proofs.YtejkoicgbgoiaaaGreat.Pl

/-- A number from low to high. -/
def inB (n lo hi : Int) : Bool := decide (n ≥ lo ∧ n ≤ hi)
theorem inB_iff {n lo hi : Int} : inB n lo hi = true ↔ lo ≤ n ∧ n ≤ hi := by unfold inB; simp
theorem inB_no {n lo hi : Int} : inB n lo hi = false ↔ ¬ (lo ≤ n ∧ n ≤ hi) := by unfold inB; simp
theorem inB_mk {n lo hi : Int} (h : lo ≤ n ∧ n ≤ hi) : inB n lo hi = true := inB_iff.2 h

/-- The nearest quotient by a positive number, halves away from 0. -/
def divR (a b : Int) : Int := if a < 0 then -((b - 2 * a) / (2 * b)) else (2 * a + b) / (2 * b)
/-- The quotient by a positive number, rounded up. -/
def divU (a b : Int) : Int := (a + b - 1) / b

theorem div_two (q r b : Int) (hb : 0 < b) (h0 : 0 ≤ r) (hr : r < b) : (2 * (b * q + r) + b) / (2 * b) = if b - r ≤ r then q + 1 else q := by
  have e : 2 * (b * q + r) + b = (2 * r + b) + (2 * b) * q := by rw [Int.mul_add, Int.mul_assoc]; omega
  rw [e, Int.add_mul_ediv_left _ _ (by omega)]
  split
  · have : (2 * r + b) / (2 * b) = 1 := by
      apply Int.le_antisymm
      · have : (2 * r + b) / (2 * b) < 2 := Int.ediv_lt_of_lt_mul (by omega) (by omega)
        omega
      · exact (Int.le_ediv_iff_mul_le (by omega)).2 (by omega)
    omega
  · have : (2 * r + b) / (2 * b) = 0 := Int.ediv_eq_zero_of_lt (by omega) (by omega)
    omega

theorem divR_nonneg {a b : Int} (ha : 0 ≤ a) : divR a b = (2 * a + b) / (2 * b) := by unfold divR; rw [if_neg (by omega)]
theorem divR_neg {a b : Int} (ha : a < 0) : divR a b = -((b - 2 * a) / (2 * b)) := by unfold divR; rw [if_pos ha]
theorem divR_opp {a b : Int} (hb : 0 < b) : divR (-a) b = - divR a b := by
  rcases Int.lt_trichotomy a 0 with h | h | h
  · rw [divR_nonneg (by omega), divR_neg h, Int.neg_neg]
    congr 1; omega
  · subst h
    rw [Int.neg_zero, divR_nonneg (Int.le_refl _)]
    have : (2 * 0 + b) / (2 * b) = 0 := Int.ediv_eq_zero_of_lt (by omega) (by omega)
    omega
  · rw [divR_neg (by omega), divR_nonneg (by omega)]
    congr 2; omega
/-- How the program reckons it, from the quotient and the rest: at a number that is not negative. -/
theorem divR_of_rest {a b : Int} (hb : 0 < b) (ha : 0 ≤ a) : divR a b = if b - a % b ≤ a % b then a / b + 1 else a / b := by
  have h := div_two (a / b) (a % b) b hb (Int.emod_nonneg _ (by omega)) (Int.emod_lt_of_pos _ hb)
  rw [Int.mul_ediv_add_emod] at h
  rw [divR_nonneg ha, h]
theorem divR_mono {a a' b : Int} (hb : 0 < b) (h : a ≤ a') : divR a b ≤ divR a' b := by
  unfold divR
  split <;> split
  · have : (b - 2 * a') / (2 * b) ≤ (b - 2 * a) / (2 * b) := Int.ediv_le_ediv (by omega) (by omega)
    omega
  · have h1 : 0 ≤ (b - 2 * a) / (2 * b) := Int.ediv_nonneg (by omega) (by omega)
    have h2 : 0 ≤ (2 * a' + b) / (2 * b) := Int.ediv_nonneg (by omega) (by omega)
    omega
  · omega
  · exact Int.ediv_le_ediv (by omega) (by omega)
/-- Bounds: between the bounds of the number itself. -/
theorem divR_le {a b c : Int} (hb : 0 < b) (h : 2 * a < (2 * c + 1) * b) (hc : 0 ≤ c) : divR a b ≤ c := by
  unfold divR
  split
  · have h1 : 0 ≤ (b - 2 * a) / (2 * b) := Int.ediv_nonneg (by omega) (by omega)
    omega
  · have e : (2 * c + 1) * b = 2 * c * b + b := by rw [Int.add_mul, Int.one_mul]
    have e2 : (c + 1) * (2 * b) = 2 * c * b + 2 * b := by rw [Int.add_mul, Int.one_mul, ← Int.mul_assoc, Int.mul_comm c 2]
    have : (2 * a + b) / (2 * b) < c + 1 := Int.ediv_lt_of_lt_mul (by omega) (by rw [e2]; omega)
    omega
theorem le_divR {a b c : Int} (hb : 0 < b) (h : -((2 * c + 1) * b) < 2 * a) (hc : 0 ≤ c) : -c ≤ divR a b := by
  have h1 := divR_le (a := -a) hb (c := c) (by omega) hc
  rw [divR_opp hb] at h1
  omega
theorem divR_nonneg' {a b : Int} (hb : 0 < b) (ha : 0 ≤ a) : 0 ≤ divR a b := by
  rw [divR_nonneg ha]; exact Int.ediv_nonneg (by omega) (by omega)
theorem divR_nonpos {a b : Int} (hb : 0 < b) (ha : a ≤ 0) : divR a b ≤ 0 := by
  have := divR_nonneg' (a := -a) hb (by omega)
  rw [divR_opp hb] at this; omega

/-- The lesser, the greater of two numbers. -/
def mn (a b : Int) : Int := if a < b then a else b
def mx (a b : Int) : Int := if a > b then a else b
theorem mn_le_left (a b : Int) : mn a b ≤ a := by unfold mn; split <;> omega
theorem mn_le_right (a b : Int) : mn a b ≤ b := by unfold mn; split <;> omega
theorem mn_or (a b : Int) : mn a b = a ∨ mn a b = b := by unfold mn; split <;> simp
theorem mx_ge_left (a b : Int) : a ≤ mx a b := by unfold mx; split <;> omega
theorem mx_ge_right (a b : Int) : b ≤ mx a b := by unfold mx; split <;> omega
theorem mx_or (a b : Int) : mx a b = a ∨ mx a b = b := by unfold mx; split <;> simp
theorem mn_comm (a b : Int) : mn a b = mn b a := by unfold mn; split <;> split <;> omega
theorem mn_eq_left {a b : Int} (h : a ≤ b) : mn a b = a := by unfold mn; split <;> omega
theorem mn_eq_right {a b : Int} (h : b ≤ a) : mn a b = b := by unfold mn; split <;> omega
theorem mx_eq_left {a b : Int} (h : b ≤ a) : mx a b = a := by unfold mx; split <;> omega
theorem mx_eq_right {a b : Int} (h : a ≤ b) : mx a b = b := by unfold mx; split <;> omega

theorem divU_nonneg {a b : Int} (ha : 0 ≤ a) (hb : 1 ≤ b) : 0 ≤ divU a b := Int.ediv_nonneg (by omega) (by omega)
theorem divU_le {a b : Int} (ha : 0 ≤ a) (hb : 1 ≤ b) : divU a b ≤ a := by
  unfold divU
  refine Int.le_of_lt_add_one (Int.ediv_lt_of_lt_mul (by omega) ?_)
  have h : a * 1 ≤ a * b := Int.mul_le_mul_of_nonneg_left hb ha
  rw [Int.add_mul, Int.one_mul]
  omega
/-- A product of two numbers between bounds. -/
theorem mul_le {a b A B : Int} (ha : 0 ≤ a) (hA : a ≤ A) (hb : 0 ≤ b) (hB : b ≤ B) : a * b ≤ A * B :=
  Int.mul_le_mul hA hB hb (by omega)
theorem mul_ge {a b : Int} (ha : 0 ≤ a) (hb : 0 ≤ b) : 0 ≤ a * b := Int.mul_nonneg ha hb
/-- .. of any sign. -/
theorem mul_abs {a b A B : Int} (hA0 : -A ≤ a) (hA : a ≤ A) (hB0 : -B ≤ b) (hB : b ≤ B) : -(A * B) ≤ a * b ∧ a * b ≤ A * B := by
  have hA' : 0 ≤ A := by omega
  have hB' : 0 ≤ B := by omega
  rcases Int.le_total 0 a with h | h <;> rcases Int.le_total 0 b with k | k
  · have := mul_le h hA k hB; have := mul_ge h k; have := mul_ge hA' hB'; omega
  · have e := mul_le h hA (b := -b) (by omega) (B := B) (by omega); have e2 := mul_ge h (b := -b) (by omega); rw [Int.mul_neg] at e e2; have := mul_ge hA' hB'; omega
  · have e := mul_le (a := -a) (by omega) (A := A) (by omega) k hB; have e2 := mul_ge (a := -a) (by omega) k; rw [Int.neg_mul] at e e2; have := mul_ge hA' hB'; omega
  · have e := mul_le (a := -a) (by omega) (A := A) (by omega) (b := -b) (by omega) (B := B) (by omega); have e2 := mul_ge (a := -a) (by omega) (b := -b) (by omega); rw [Int.neg_mul_neg] at e e2; have := mul_ge hA' hB'; omega
end Go.Proofs.YtejkoicgbgoiaaaGreat.Pl

/- Contracts of the planner's small functions on numbers: each call returns what the plain Lean function says, and leaves the world as it was, but for draws of an order. Conditions: the bounds that each theorem names. -/
namespace Go.Proofs.YtejkoicgbgoiaaaGreat
open Go.RowKit
open Pl

theorem ret_int {k : IntKind} {a b : Int} (h : a = b) : Ending.returned (.int k a) = .returned (.int k b) := by rw [h]

theorem below_drewN {B : Nat} {a w : World} (h : Below B a w) (n : Nat) : Below B a (w.drewN n) := ⟨h.os, h.tape, h.output, h.size, h.block⟩

/-- What a 'Below' says of the old cells and marks, as the walk reads it. -/
theorem bcell {B : Nat} {W w1 : World} (hb : Below B W w1) :
    (∀ b o, b < B → w1.cell? ⟨b, o, none⟩ = W.cell? ⟨b, o, none⟩) ∧ (∀ b o, b < B → w1.frozen? ⟨b, o, none⟩ = W.frozen? ⟨b, o, none⟩) :=
  ⟨fun b o h => hb.cell (p := ⟨b, o, none⟩) h, fun b o h => hb.frozen (p := ⟨b, o, none⟩) h⟩

/-- Two boxes, laid one behind the other. -/
theorem box1 (w : World) (a : Value) (ta : TypeId) : (w.alloc (.cells #[a] ta)).cell? ⟨w.heap.size, 0, none⟩ = some a := by
  rw [World.cell?_alloc_at _ _ _ _ rfl]; rfl
theorem box2 (w : World) (a b : Value) (ta tb : TypeId) :
    ((w.alloc (.cells #[a] ta)).alloc (.cells #[b] tb)).cell? ⟨w.heap.size, 0, none⟩ = some a ∧ ((w.alloc (.cells #[a] ta)).alloc (.cells #[b] tb)).cell? ⟨w.heap.size + 1, 0, none⟩ = some b := by
  constructor
  · rw [World.cell?_alloc_past _ _ _ (by simp)]; exact box1 w a ta
  · simp

/-- A contract that leaves the world, or draws at most, as one that speaks of 'Below'. -/
theorem sB {P : Program} {f : FuncId} {args : Array Value} {w : World} {x : Ending} (h : Calls P f args w fun e w' => e = x ∧ w = w') : Calls P f args w fun e w' => e = x ∧ Below w.heap.size w w' :=
  h.mono fun _ _ ⟨he, hw⟩ => ⟨he, hw ▸ Below.refl _ _⟩
theorem dB {P : Program} {f : FuncId} {args : Array Value} {w : World} {x : Ending} (h : Calls P f args w fun e w' => e = x ∧ ∃ n, w.drewN n = w') : Calls P f args w fun e w' => e = x ∧ Below w.heap.size w w' :=
  h.mono fun _ _ ⟨he, n, hw⟩ => ⟨he, hw ▸ below_drewN (Below.refl _ _) n⟩

/-- A contract whose truth value is known. -/
theorem eqb {P : Program} {f : FuncId} {args : Array Value} {w : World} {b b' : Bool} (h : Calls P f args w fun e w' => e = .returned (.bool b) ∧ w = w') (hb : b = b') :
    Calls P f args w fun e w' => e = .returned (.bool b') ∧ w = w' := by rw [← hb]; exact h
theorem eqbd {P : Program} {f : FuncId} {args : Array Value} {w : World} {b b' : Bool} (h : Calls P f args w fun e w' => e = .returned (.bool b) ∧ ∃ n, w.drewN n = w') (hb : b = b') :
    Calls P f args w fun e w' => e = .returned (.bool b') ∧ ∃ n, w.drewN n = w' := by rw [← hb]; exact h

/-! ### The test of a range -/
theorem within_any (n lo hi : Int) (w : World) : Calls Tryz.prog 43 #[.int .i64 n, .int .i64 lo, .int .i64 hi] w fun e w' => e = .returned (.bool (inB n lo hi)) ∧ w = w' := by
  by_cases h1 : lo ≤ n
  · by_cases h2 : n ≤ hi
    · have e : inB n lo hi = true := inB_mk ⟨h1, h2⟩
      rw [e]
      go_enter Tryz.func43, Tryz.ntmps43
      go_wp2
      go_ret
      exact ⟨rfl, rfl⟩
    · have e : inB n lo hi = false := inB_no.2 (by omega)
      rw [e]
      go_enter Tryz.func43, Tryz.ntmps43
      go_wp2
      go_ret
      exact ⟨rfl, rfl⟩
  · have e : inB n lo hi = false := inB_no.2 (by omega)
    rw [e]
    go_enter Tryz.func43, Tryz.ntmps43
    go_wp2
    go_ret
    exact ⟨rfl, rfl⟩
theorem l00In_any (n lo hi : Int) (w : World) : Calls Tryz.prog 67 #[.int .i64 n, .int .i64 lo, .int .i64 hi] w fun e w' => e = .returned (.bool (inB n lo hi)) ∧ w = w' := by
  by_cases h1 : lo ≤ n
  · by_cases h2 : n ≤ hi
    · have e : inB n lo hi = true := inB_mk ⟨h1, h2⟩
      rw [e]
      go_enter Tryz.func67, Tryz.ntmps67
      go_wp2
      go_ret
      exact ⟨rfl, rfl⟩
    · have e : inB n lo hi = false := inB_no.2 (by omega)
      rw [e]
      go_enter Tryz.func67, Tryz.ntmps67
      go_wp2
      go_ret
      exact ⟨rfl, rfl⟩
  · have e : inB n lo hi = false := inB_no.2 (by omega)
    rw [e]
    go_enter Tryz.func67, Tryz.ntmps67
    go_wp2
    go_ret
    exact ⟨rfl, rfl⟩

/-! ### abs, divUp, divRound -/
theorem abs_any (n : Int) (w : World) (h1 : -9223372036854775807 ≤ n) (h2 : n ≤ 9223372036854775807) :
    Calls Tryz.prog 96 #[.int .i64 n] w fun e w' => e = .returned (.int .i64 n.natAbs) ∧ w = w' := by
  by_cases h : 0 ≤ n
  · have e : ((n.natAbs : Nat) : Int) = n := by omega
    rw [e]
    go_enter Tryz.func96, Tryz.ntmps96
    go_wp2
    all_goals go_ret
    all_goals exact ⟨ret_int (by omega), rfl⟩
  · have e : ((n.natAbs : Nat) : Int) = -n := by omega
    rw [e]
    go_enter Tryz.func96, Tryz.ntmps96
    go_wp2
    all_goals go_ret
    all_goals exact ⟨ret_int (by omega), rfl⟩

/-! ### Tests of one number's range -/
theorem resistanceOk_any (n : Int) (w : World) : Calls Tryz.prog 152 #[.int .i64 n] w fun e w' => e = .returned (.bool (inB n 1 1000000)) ∧ w = w' := by
  go_enter Tryz.func152, Tryz.ntmps152
  go_wp2_with (go_at_call 43; refine (within_any _ _ _ _).mono ?_; rintro e w' ⟨rfl, rfl⟩)
  go_ret
  exact ⟨rfl, rfl⟩
theorem junctionOk_any (n : Int) (w : World) : Calls Tryz.prog 104 #[.int .i64 n] w fun e w' => e = .returned (.bool (inB n 0 15)) ∧ w = w' := by
  go_enter Tryz.func104, Tryz.ntmps104
  go_wp2_with (go_at_call 43; refine (within_any _ _ _ _).mono ?_; rintro e w' ⟨rfl, rfl⟩)
  go_ret
  exact ⟨rfl, rfl⟩
theorem l03Res_any (n : Int) (w : World) : Calls Tryz.prog 136 #[.int .i64 n] w fun e w' => e = .returned (.bool (inB n 1 1000000)) ∧ w = w' := by
  go_enter Tryz.func136, Tryz.ntmps136
  go_wp2_with (go_at_call 67; refine (l00In_any _ _ _ _).mono ?_; rintro e w' ⟨rfl, rfl⟩)
  go_ret
  exact ⟨rfl, rfl⟩
theorem l03Flow_any (n : Int) (w : World) : Calls Tryz.prog 137 #[.int .i64 n] w fun e w' => e = .returned (.bool (inB n (-100000) 100000)) ∧ w = w' := by
  go_enter Tryz.func137, Tryz.ntmps137
  go_wp2_with (go_at_call 67; refine (l00In_any _ _ _ _).mono ?_; rintro e w' ⟨rfl, rfl⟩)
  go_ret
  exact ⟨rfl, rfl⟩

/-! ### The lesser, the greater -/
theorem l00Min_any (a b : Int) (w : World) : Calls Tryz.prog 151 #[.int .i64 a, .int .i64 b] w fun e w' => e = .returned (.int .i64 (mn a b)) ∧ w = w' := by
  by_cases h : a < b
  · rw [show mn a b = a from by unfold mn; rw [if_pos h]]
    go_enter Tryz.func151, Tryz.ntmps151
    go_wp2
    go_ret
    exact ⟨rfl, rfl⟩
  · rw [show mn a b = b from by unfold mn; rw [if_neg h]]
    go_enter Tryz.func151, Tryz.ntmps151
    go_wp2
    go_ret
    exact ⟨rfl, rfl⟩
theorem l00Max_any (a b : Int) (w : World) : Calls Tryz.prog 141 #[.int .i64 a, .int .i64 b] w fun e w' => e = .returned (.int .i64 (mx a b)) ∧ w = w' := by
  by_cases h : a > b
  · rw [show mx a b = a from by unfold mx; rw [if_pos h]]
    go_enter Tryz.func141, Tryz.ntmps141
    go_wp2
    go_ret
    exact ⟨rfl, rfl⟩
  · rw [show mx a b = b from by unfold mx; rw [if_neg h]]
    go_enter Tryz.func141, Tryz.ntmps141
    go_wp2
    go_ret
    exact ⟨rfl, rfl⟩

/-! ### The nearest quotient, by a positive number: the program's and the reference's -/
theorem abs_up (n : Int) (w : World) (h1 : 0 ≤ n) (h2 : n ≤ 9223372036854775807) : Calls Tryz.prog 96 #[.int .i64 n] w fun e w' => e = .returned (.int .i64 n) ∧ w = w' := by
  have h := abs_any n w (by omega) h2
  rw [show ((n.natAbs : Nat) : Int) = n from by omega] at h
  exact h
theorem abs_down (n : Int) (w : World) (h1 : 0 ≤ n) (h2 : n ≤ 9223372036854775807) : Calls Tryz.prog 96 #[.int .i64 (-n)] w fun e w' => e = .returned (.int .i64 n) ∧ w = w' := by
  have h := abs_any (-n) w (by omega) (by omega)
  rw [show (((-n).natAbs : Nat) : Int) = n from by omega] at h
  exact h
theorem divRound_up (a b : Int) (w : World) (h1 : 0 ≤ a) (h2 : a ≤ 4611686018427387904) (hb : 1 ≤ b) (hb2 : b ≤ 4611686018427387904) :
    Calls Tryz.prog 132 #[.int .i64 a, .int .i64 b] w fun e w' => e = .returned (.int .i64 (divR a b)) ∧ ∃ n, w.drewN n = w' := by
  have r0 : 0 ≤ a % b := Int.emod_nonneg _ (by omega)
  have r1 : a % b < b := Int.emod_lt_of_pos _ (by omega)
  have q0 : 0 ≤ a / b := Int.ediv_nonneg (by omega) (by omega)
  have q1 : a / b ≤ a := Int.ediv_le_self _ (by omega)
  have hd := divR_of_rest (a := a) (b := b) (by omega) h1
  by_cases hc : b - a % b ≤ a % b
  · rw [if_pos hc] at hd
    rw [hd]
    clear hd
    have hab : (decide (a < 0) == decide (b < 0)) = true := by rw [decide_eq_false (by omega), decide_eq_false (by omega)]; rfl
    go_enter Tryz.func132, Tryz.ntmps132
    go_wp2_with fail
    go_quiet ((go_at_call 96; exact (abs_up _ _ (by omega) (by omega)).mono (fun _ _ ⟨he, hw⟩ => ⟨he, _, hw.symm⟩)))
    go_wp2_with (go_at_call 96; refine (abs_up _ _ (by omega) (by omega)).mono ?_; rintro e w' ⟨rfl, rfl⟩)
    go_ret
    exact ⟨rfl, _, rfl⟩
  · rw [if_neg hc] at hd
    rw [hd]
    clear hd
    have hab : (decide (a < 0) == decide (b < 0)) = true := by rw [decide_eq_false (by omega), decide_eq_false (by omega)]; rfl
    go_enter Tryz.func132, Tryz.ntmps132
    go_wp2_with fail
    go_quiet ((go_at_call 96; exact (abs_up _ _ (by omega) (by omega)).mono (fun _ _ ⟨he, hw⟩ => ⟨he, _, hw.symm⟩)))
    go_wp2_with (go_at_call 96; refine (abs_up _ _ (by omega) (by omega)).mono ?_; rintro e w' ⟨rfl, rfl⟩)
    go_ret
    exact ⟨rfl, _, rfl⟩
theorem divRound_down (a b : Int) (w : World) (h1 : a < 0) (h2 : -4611686018427387904 ≤ a) (hb : 1 ≤ b) (hb2 : b ≤ 4611686018427387904) :
    Calls Tryz.prog 132 #[.int .i64 a, .int .i64 b] w fun e w' => e = .returned (.int .i64 (divR a b)) ∧ ∃ n, w.drewN n = w' := by
  have hd := divR_of_rest (a := -a) (b := b) (by omega) (by omega)
  rw [divR_opp (by omega)] at hd
  have r0 : 0 ≤ (-a) % b := Int.emod_nonneg _ (by omega)
  have r1 : (-a) % b < b := Int.emod_lt_of_pos _ (by omega)
  have q0 : 0 ≤ (-a) / b := Int.ediv_nonneg (by omega) (by omega)
  have q1 : (-a) / b ≤ -a := Int.ediv_le_self _ (by omega)
  have eq : a.tdiv b = -((-a) / b) := by
    have := Int.neg_tdiv (a := -a) (b := b)
    rw [Int.neg_neg, Int.tdiv_eq_ediv_of_nonneg (a := -a) (by omega)] at this
    exact this
  have er : a.tmod b = -((-a) % b) := by
    have := Int.neg_tmod (a := -a) (b := b)
    rw [Int.neg_neg, Int.tmod_eq_emod_of_nonneg (a := -a) (by omega)] at this
    exact this
  generalize (-a) / b = q at *
  generalize (-a) % b = r at *
  by_cases hc : b - r ≤ r
  · rw [if_pos hc] at hd
    rw [show divR a b = -q - 1 from by omega]
    clear hd
    have hab : (decide (a < 0) == decide (b < 0)) = false := by rw [decide_eq_true (by omega), decide_eq_false (by omega)]; rfl
    go_enter Tryz.func132, Tryz.ntmps132
    go_wp2_with fail
    go_quiet ((go_at_call 96; exact (abs_down _ _ (by omega) (by omega)).mono (fun _ _ ⟨he, hw⟩ => ⟨he, _, hw.symm⟩)))
    go_wp2_with (go_at_call 96; refine (abs_up _ _ (by omega) (by omega)).mono ?_; rintro e w' ⟨rfl, rfl⟩)
    go_ret
    exact ⟨rfl, _, rfl⟩
  · rw [if_neg hc] at hd
    rw [show divR a b = -q from by omega]
    clear hd
    have hab : (decide (a < 0) == decide (b < 0)) = false := by rw [decide_eq_true (by omega), decide_eq_false (by omega)]; rfl
    go_enter Tryz.func132, Tryz.ntmps132
    go_wp2_with fail
    go_quiet ((go_at_call 96; exact (abs_down _ _ (by omega) (by omega)).mono (fun _ _ ⟨he, hw⟩ => ⟨he, _, hw.symm⟩)))
    go_wp2_with (go_at_call 96; refine (abs_up _ _ (by omega) (by omega)).mono ?_; rintro e w' ⟨rfl, rfl⟩)
    go_ret
    exact ⟨rfl, _, rfl⟩
theorem divRound_any (a b : Int) (w : World) (h1 : -4611686018427387904 ≤ a) (h2 : a ≤ 4611686018427387904) (hb : 1 ≤ b) (hb2 : b ≤ 4611686018427387904) :
    Calls Tryz.prog 132 #[.int .i64 a, .int .i64 b] w fun e w' => e = .returned (.int .i64 (divR a b)) ∧ ∃ n, w.drewN n = w' := by
  by_cases h : 0 ≤ a
  · exact divRound_up a b w h h2 hb hb2
  · exact divRound_down a b w (by omega) h1 hb hb2
theorem l01Div_any (a b : Int) (w : World) (h1 : -2305843009213693952 ≤ a) (h2 : a ≤ 2305843009213693952) (hb : 1 ≤ b) (hb2 : b ≤ 2305843009213693952) :
    Calls Tryz.prog 149 #[.int .i64 a, .int .i64 b] w fun e w' => e = .returned (.int .i64 (divR a b)) ∧ w = w' := by
  by_cases h : a < 0
  · rw [divR_neg h]
    have q1 : 0 ≤ (b - 2 * a) / (2 * b) := Int.ediv_nonneg (by omega) (by omega)
    have q2 : (b - 2 * a) / (2 * b) ≤ b - 2 * a := Int.ediv_le_self _ (by omega)
    go_enter Tryz.func149, Tryz.ntmps149
    go_wp2
    go_ret
    exact ⟨rfl, rfl⟩
  · rw [divR_nonneg (by omega)]
    go_enter Tryz.func149, Tryz.ntmps149
    go_wp2
    go_ret
    exact ⟨rfl, rfl⟩
end Go.Proofs.YtejkoicgbgoiaaaGreat

/- The laws' own functions on lists of numbers: a copy, a comparison, marks that are laid and asked for. What a list of the call's own is in memory. Conditions: the lengths that each theorem names. -/
namespace Go.Proofs.YtejkoicgbgoiaaaGreat
open Go.RowKit
open Pl

theorem le_max {n : Nat} (h : n ≤ 1099511627776) : n ≤ maxLen := by unfold maxLen; omega
theorem infoI : (Tryz.prog.info? 2).map (fun i => (i.zero, i.size, i.bytes)) = some (some (.int .i64 0), 1, 8) := by kernel_rfl

/-- The values of numbers. -/
def vals (xs : List Int) : List Value := xs.map (Value.int .i64)
theorem vals_length (xs : List Int) : (vals xs).length = xs.length := List.length_map _
theorem vals_get {xs : List Int} {j : Nat} (h : j < xs.length) : (vals xs)[j]? = some (.int .i64 xs[j]) := by unfold vals; rw [List.getElem?_map, List.getElem?_eq_getElem h]; rfl
theorem vals_append (xs ys : List Int) : vals (xs ++ ys) = vals xs ++ vals ys := List.map_append
theorem vals_set (xs : List Int) (j : Nat) (x : Int) : (vals xs).set j (.int .i64 x) = vals (xs.set j x) := by unfold vals; rw [List.map_set]

/-- 'Own base w v xs': the slice value v owns the numbers xs, in a block from base on (nil, if none). -/
def Own (base : Nat) (w : World) (v : Value) (xs : List Int) : Prop := w.ownsRow base 2 1 v xs.length (vals xs)

theorem Own.nil_ (base : Nat) (w : World) : Own base w (.slice none 0 0) [] := World.ownsRow_nil _ _ _ _
/-- The form of such a value: an address that may be nil, and a capacity. -/
theorem Own.form {base : Nat} {w : World} {v : Value} {xs : List Int} (h : Own base w v xs) :
    (v = .slice none 0 0 ∧ xs = []) ∨ ∃ g c, v = .slice (some ⟨g, 0, none⟩) xs.length c ∧ base ≤ g ∧ g < w.heap.size := by
  rcases h.2 with ⟨rfl, h0⟩ | ⟨g, cap, cur, hv, hb, hg, _⟩
  · exact .inl ⟨rfl, List.eq_nil_of_length_eq_zero h0⟩
  · exact .inr ⟨g, cap, hv, hb, (Array.getElem?_eq_some_iff.1 hg).1⟩
theorem Own.slice {base : Nat} {w : World} {v : Value} {xs : List Int} (h : Own base w v xs) : ∃ A c, v = .slice A xs.length c ∧ Ints w.heap.size w A xs ∧ (∀ ad, A = some ad → ad = ⟨ad.block, 0, none⟩ ∧ base ≤ ad.block ∧ ad.block < w.heap.size) := by
  rcases h.form with ⟨rfl, rfl⟩ | ⟨g, c, rfl, hb, hlt⟩
  · exact ⟨none, 0, rfl, Ints.nil, fun ad h => by cases h⟩
  · refine ⟨some ⟨g, 0, none⟩, c, rfl, fun _ => ⟨_, rfl, hlt, fun k hk => ?_⟩, fun ad h => by cases h; exact ⟨rfl, hb, hlt⟩⟩
    exact World.ownsRow.cells h rfl k _ (vals_get hk)
theorem Own.ints {base : Nat} {w : World} {A : Option Addr} {n c : Nat} {xs : List Int} (h : Own base w (.slice A n c) xs) : Ints w.heap.size w A xs := by
  obtain ⟨A', c', he, hi, _⟩ := h.slice
  injection he with h1 h2 h3
  subst h1
  exact hi
theorem Own.below {base B : Nat} {w w' : World} {v : Value} {xs : List Int} (h : Own base w v xs) (hb : Below B w w') (hB : ∀ g, v.ownBlock = some g → g < B) : Own base w' v xs := by
  refine ⟨h.1, ?_⟩
  rcases h.2 with hn | ⟨g, cap, cur, rfl, h1, h2, rest⟩
  · exact .inl hn
  · exact .inr ⟨g, cap, cur, rfl, h1, (hb.block g (hB g rfl)).trans h2, rest⟩
/-- .. over a call that leaves all that was there. -/
theorem Own.later {base : Nat} {w w' : World} {v : Value} {xs : List Int} (h : Own base w v xs) (hb : Below w.heap.size w w') : Own base w' v xs :=
  h.below hb (fun g hg => (World.ownsRow.lt h g hg).2)
theorem Own.kept {base : Nat} {w w' : World} {v : Value} {xs : List Int} {row : Option Nat} (h : Own base w v xs) (hg : w.grownBy w' row) (hne : v.ownBlock = none ∨ v.ownBlock ≠ row) : Own base w' v xs :=
  World.ownsRow.kept h hg hne
theorem Own.base {b b' : Nat} {w : World} {v : Value} {xs : List Int} (h : Own b w v xs) (hb : ∀ g, v.ownBlock = some g → b' ≤ g) : Own b' w v xs := by
  refine ⟨h.1, ?_⟩
  rcases h.2 with hn | ⟨g, cap, cur, rfl, h1, rest⟩
  · exact .inl hn
  · exact .inr ⟨g, cap, cur, rfl, hb g rfl, rest⟩

theorem take_set_succ {zs xs : List Int} {k : Nat} (hz : zs.length = xs.length) (hk : k < xs.length) (h : zs.take k = xs.take k) : (zs.set k xs[k]).take (k + 1) = xs.take (k + 1) := by
  apply List.ext_getElem?
  intro j
  rw [List.getElem?_take, List.getElem?_take]
  split
  · by_cases e : j = k
    · subst e; rw [List.getElem?_set_self (by omega), List.getElem?_eq_getElem hk]
    · rw [List.getElem?_set_ne (Ne.symm e)]
      have := congrArg (·[j]?) h
      simp only [List.getElem?_take] at this
      rw [if_pos (by omega), if_pos (by omega)] at this
      exact this
  · rfl
theorem take_all_eq {zs xs : List Int} (hz : zs.length = xs.length) (h : zs.take xs.length = xs.take xs.length) : zs = xs := by
  rw [List.take_of_length_le (by omega), List.take_of_length_le (by omega)] at h; exact h
/-- A copy of a list: a new row. -/
theorem toInt64S_any (A : Option Addr) (c : Nat) (xs : List Int) (B : Nat) (w : World) (hn : xs.length ≤ 1048576) (hI : Ints B w A xs) (hB : B ≤ w.heap.size) :
    Calls Tryz.prog 11 #[.slice A xs.length c] w fun e w' => e = .returned (.slice (some ⟨w.heap.size, 0, none⟩) xs.length xs.length) ∧ Own w.heap.size w' (.slice (some ⟨w.heap.size, 0, none⟩) xs.length xs.length) xs ∧ Below w.heap.size w w' := by
  obtain ⟨i0, hi, hz0, hz1, hz2⟩ := info_parts infoI
  have hbb : i0.bytes * xs.length ≤ 281474976710656 := by rw [hz2]; omega
  have hmx : xs.length ≤ maxLen := le_max (by omega)
  go_enter Tryz.func11, Tryz.ntmps11
  go_wp2_with (at_make; refine wpList_make_full _ rfl (.tmp 6) (.tmp 6) 25 rfl w.heap.size 2 i0 (.int .i64 0) 1 Tryz.underlying25 hi hz0 hz1 .i64 .i64 (xs.length : Int) (xs.length : Int) xs.length rfl rfl rfl rfl hbb hmx (Nat.le_refl _) ?_; intro w1 hown hgr)
  have hbe : Below w.heap.size w w1 := (Below.refl _ _).grown hgr (Nat.le_refl _) (fun k hk => by cases hk)
  have HO : ∃ zs : List Int, zs.length = xs.length ∧ zs.take 0 = xs.take 0 ∧ w1.ownsRow w.heap.size 2 1 (.slice (some ⟨w.heap.size, 0, none⟩) xs.length xs.length) xs.length (vals zs) := by
    refine ⟨List.replicate xs.length 0, by simp, by simp, ?_⟩
    unfold vals
    have e : (madeCells (Value.int .i64 0).cells (xs.length * 1)).toList = (List.replicate xs.length (0 : Int)).map (Value.int .i64) := by
      rw [Nat.mul_one, List.map_replicate]
      exact toList_madeCells_one _ _
    rw [e] at hown
    exact hown
  clear hown hgr hbb hmx hi hz0 hz1 hz2
  have HH := Lib.hid HO
  clear HO
  go_wp2
  go_loopw [4] (fun i wr => ∃ k : Nat, k ≤ xs.length ∧ i = .int .i64 k ∧ Below w.heap.size w wr ∧ w.heap.size < wr.heap.size ∧ ∃ zs : List Int, zs.length = xs.length ∧ zs.take k = xs.take k ∧ wr.ownsRow w.heap.size 2 1 (.slice (some ⟨w.heap.size, 0, none⟩) xs.length xs.length) xs.length (vals zs)) (fun i _ => xs.length - (intOf i).toNat)
  case atStart =>
    obtain ⟨zs, h1, h2, h3⟩ := HH.out
    exact ⟨0, Nat.zero_le _, rfl, hbe, (World.ownsRow.lt h3 _ rfl).2, zs, h1, h2, h3⟩
  case round =>
    obtain ⟨k, hk, rfl, hb, hlt2, zs, hz, ht, ho⟩ := hrel
    by_cases hlt : k < xs.length
    · obtain ⟨ad, rfl, hab, hcell0⟩ := hI.at_ hlt
      have hcell : wr.cell? (ad.add k) = some (.int .i64 xs[k]) := (hb.cell (by rw [block_add]; omega)).trans hcell0
      have hfz : wr.frozen? ⟨w.heap.size, k, none⟩ = false := World.ownsRow.frozenAt ho k
      obtain ⟨y, hold⟩ : ∃ y, wr.cell? ⟨w.heap.size, k, none⟩ = some (.int .i64 y) := ⟨_, (World.ownsRow.cellAt ho k (by omega)).trans (vals_get (by omega))⟩
      have HO := Lib.hid ho
      have HZ := Lib.hid hz
      have HT := Lib.hid ht
      clear ho hz ht hcell0
      obtain ⟨x, hx⟩ : ∃ x, x = xs[k] := ⟨_, rfl⟩
      rw [← hx] at hcell
      have HX := Lib.hid hx
      clear hx
      go_wp2
      go_roundw
      case rel =>
        obtain ⟨h1, h2⟩ := World.ownsRow.stored HO.out k (.int .i64 x)
        rw [vals_set] at h1
        refine ⟨k + 1, by omega, by go_num, hb.setCell (by simp) _, by simpa using hlt2, zs.set k x, by rw [List.length_set]; exact HZ.out, ?_, h1⟩
        rw [HX.out]
        exact take_set_succ HZ.out hlt HT.out
      case measure => simp [intOf]; omega
    · obtain rfl : k = xs.length := by omega
      have HE := Lib.hid (take_all_eq hz ht)
      have HO := Lib.hid ho
      clear ho hz ht
      go_wp2
      go_ret
      refine ⟨rfl, ?_, hb⟩
      have h := HO.out
      rw [HE.out] at h
      exact h

/-! ### Comparison -/
theorem eqInt64S_yes (A A' : Option Addr) (c c' : Nat) (xs : List Int) (B B' : Nat) (w : World) (hn : xs.length ≤ 1099511627776) (hI : Ints B w A xs) (hI' : Ints B' w A' xs) :
    Calls Tryz.prog 15 #[.slice A xs.length c, .slice A' xs.length c'] w fun e w' => e = .returned (.bool true) ∧ ∃ n, w.drewN n = w' := by
  go_enter Tryz.func15, Tryz.ntmps15
  go_wp2
  go_loopw [5] (fun i wr => ∃ k : Nat, k ≤ xs.length ∧ i = .int .i64 k ∧ ∃ n, w.drewN n = wr) (fun i _ => xs.length - (intOf i).toNat)
  case atStart => exact ⟨0, Nat.zero_le _, rfl, 0, rfl⟩
  case round =>
    obtain ⟨k, hk, rfl, n, rfl⟩ := hrel
    by_cases hlt : k < xs.length
    · obtain ⟨ad, rfl, _, hc1⟩ := hI.at_ hlt
      obtain ⟨ad', rfl, _, hc2⟩ := hI'.at_ hlt
      have hi1 : (k : Int) < xs.length := by omega
      have hi0 : (0 : Int) ≤ k := by omega
      generalize xs[k] = x at *
      go_wp2_with fail
      go_quiet (fail)
      go_wp2
      go_roundw
      case rel => exact ⟨k + 1, by omega, by go_num, _, rfl⟩
      case measure => simp [intOf]; omega
    · go_wp2
      go_ret
      exact ⟨rfl, _, rfl⟩

/-! ### Marks -/
def marks (k : Int) (n : Nat) : List Int := (List.range n).map (fun j : Nat => k + (j : Int))
theorem marks_length (k : Int) (n : Nat) : (marks k n).length = n := by unfold marks; simp
theorem marks_get (k : Int) (n j : Nat) (h : j < (marks k n).length) : (marks k n)[j] = k + (j : Int) := by simp [marks]
theorem markInt64S_nil (k : Int) (w : World) :
    Calls Tryz.prog 20 #[.slice none 0 0, .int .i64 k] w fun e w' => e = .returned (.int .i64 k) ∧ w = w' := by
  go_enter Tryz.func20, Tryz.ntmps20
  go_wp2
  go_rounds 1
  go_ret
  exact ⟨rfl, rfl⟩
theorem markInt64S_row (g c n : Nat) (xs : List Int) (k : Int) (base : Nat) (w : World) (hn : n ≤ 1099511627776) (h1 : 0 ≤ k) (h2 : k ≤ 1099511627776) (hl : xs.length = n) (ho : w.ownsRow base 2 1 (.slice (some ⟨g, 0, none⟩) n c) n (vals xs)) :
    Calls Tryz.prog 20 #[.slice (some ⟨g, 0, none⟩) n c, .int .i64 k] w fun e w' => e = .returned (.int .i64 (k + n)) ∧ w'.ownsRow base 2 1 (.slice (some ⟨g, 0, none⟩) n c) n (vals (marks k n)) ∧ w.grownBy w' (some g) := by
  have HL := Lib.hid hl
  have HW := Lib.hid ho
  clear hl ho
  go_enter Tryz.func20, Tryz.ntmps20
  go_wp2
  go_loopw [1, 5] (fun q i wr => ∃ j : Nat, j ≤ n ∧ i = .int .i64 j ∧ q = .int .i64 (k + j) ∧ w.grownBy wr (some g) ∧ ∃ zs : List Int, zs.length = n ∧ zs.take j = (marks k n).take j ∧ wr.ownsRow base 2 1 (.slice (some ⟨g, 0, none⟩) n c) n (vals zs)) (fun _ i _ => n - (intOf i).toNat)
  case atStart => exact ⟨0, Nat.zero_le _, rfl, by go_num, World.grownBy.refl _ _, xs, HL.out, rfl, HW.out⟩
  case round =>
    obtain ⟨j, hj, rfl, rfl, hg, zs, hz, ht, hr⟩ := hrel
    by_cases hlt : j < n
    · have hfz : wr.frozen? ⟨g, j, none⟩ = false := World.ownsRow.frozenAt hr j
      obtain ⟨y, hold⟩ : ∃ y, wr.cell? ⟨g, j, none⟩ = some (.int .i64 y) := ⟨_, (World.ownsRow.cellAt hr j (by omega)).trans (vals_get (by omega))⟩
      have HR := Lib.hid hr
      have HZ := Lib.hid hz
      have HT := Lib.hid ht
      clear hr hz ht
      go_wp2
      go_roundw
      case rel =>
        obtain ⟨r1, r2⟩ := World.ownsRow.stored HR.out j (.int .i64 (k + j))
        rw [vals_set] at r1
        refine ⟨j + 1, by omega, by go_num, by go_num, ?_, zs.set j (k + j), by rw [List.length_set]; exact HZ.out, ?_, r1⟩
        · exact hg.trans r2
        · have := take_set_succ (zs := zs) (xs := marks k n) (k := j) (by rw [HZ.out, marks_length]) (by rw [marks_length]; exact hlt) HT.out
          rw [marks_get] at this
          exact this
      case measure => simp [intOf]; omega
    · obtain rfl : j = n := by omega
      have HE := Lib.hid (take_all_eq (zs := zs) (xs := marks k j) (by rw [hz, marks_length]) (by rw [marks_length]; exact ht))
      have HR := Lib.hid hr
      clear hr hz ht
      go_wp2
      go_ret
      refine ⟨rfl, ?_, hg⟩
      rw [← HE.out]
      exact HR.out
theorem heldInt64S_any (A : Option Addr) (c n : Nat) (k : Int) (B : Nat) (w : World) (hn : n ≤ 1099511627776) (h1 : 0 ≤ k) (h2 : k ≤ 1099511627776) (hI : Ints B w A (marks k n)) :
    Calls Tryz.prog 22 #[.slice A n c, .int .i64 k] w fun e w' => e = .returned (.int .i64 (k + n)) ∧ w = w' := by
  go_enter Tryz.func22, Tryz.ntmps22
  go_wp2
  go_loop [1, 5] (fun q i => ∃ j : Nat, j ≤ n ∧ i = .int .i64 j ∧ q = .int .i64 (k + j)) (fun _ i => n - (intOf i).toNat)
  case atStart => exact ⟨0, Nat.zero_le _, rfl, by go_num⟩
  case round =>
    obtain ⟨j, hj, rfl, rfl⟩ := hrel
    by_cases hlt : j < n
    · obtain ⟨ad, rfl, _, hc⟩ := hI.at_ (k := j) (by rw [marks_length]; exact hlt)
      rw [marks_get] at hc
      go_wp2
      go_round
      case rel => exact ⟨j + 1, by omega, by go_num, by go_num⟩
      case measure => simp [intOf]; omega
    · obtain rfl : j = n := by omega
      go_wp2
      go_ret
      exact ⟨rfl, rfl⟩
end Go.Proofs.YtejkoicgbgoiaaaGreat

/- A list as a result: which rows lie apart; marks on a row of the call's own. No conditions but lengths. -/
namespace Go.Proofs.YtejkoicgbgoiaaaGreat
open Go.RowKit
open Pl
theorem Own.appended {base : Nat} {w : World} {v : Value} {xs : List Int} {x : Int} (h : w.ownsRow base 2 1 v (xs.length + 1) (vals xs ++ [.int .i64 x])) : Own base w v (xs ++ [x]) := by
  unfold Own
  rw [vals_append, List.length_append]
  exact h
theorem Below.appended {B : Nat} {w wd w1 : World} {v : Value} {xs : List Int} {o : Obj} (hb : Below B w wd) (ho : Own B wd v xs) (hB : B ≤ wd.heap.size) (hg : (wd.alloc o).grownBy w1 v.ownBlock) : Below B w w1 :=
  (hb.alloc hB o).grown hg (by simp; omega) (fun g h => (World.ownsRow.lt ho g h).1)
theorem Below.appended2 {B : Nat} {w wd w1 : World} {v : Value} {xs : List Int} {o : Obj} (hb : Below B w wd) (ho : Own B wd v xs) (hB : B ≤ wd.heap.size) (hg : ((wd.alloc o).drew).grownBy w1 v.ownBlock) : Below B w w1 :=
  (Below.drew (hb.alloc hB o)).grown hg (by simp; omega) (fun g h => (World.ownsRow.lt ho g h).1)
theorem Own.empty {base : Nat} {w : World} (h : base ≤ w.heap.size) : Own base (w.alloc (.cells #[] 2)) (.slice (some ⟨w.heap.size, 0, none⟩) 0 0) [] :=
  ⟨rfl, .inr ⟨w.heap.size, 0, #[], rfl, h, heap_alloc_new w _, Nat.le_refl _, by simp [maxLen], rfl, rfl⟩⟩
theorem Own.apart {b b' : Nat} {w w' : World} {v v' : Value} {xs ys : List Int} (h : Own b w v xs) (h' : Own b' w' v' ys) (hs : w.heap.size ≤ b' ∨ w'.heap.size ≤ b) : v.ownBlock = none ∨ v.ownBlock ≠ v'.ownBlock := by
  cases e : v.ownBlock with
  | none => exact .inl rfl
  | some g =>
    refine .inr fun e' => ?_
    have a := World.ownsRow.lt h g e
    have c := World.ownsRow.lt h' g e'.symm
    omega
theorem Own.grew {B b : Nat} {w w1 w2 : World} {v : Value} {xs : List Int} (hb : Below B w w1) (ho : Own b w1 v xs) (hB : B ≤ b) (hs : B ≤ w1.heap.size) (hg : w1.grownBy w2 v.ownBlock) : Below B w w2 :=
  hb.grown hg hs (fun g h => Nat.le_trans hB (World.ownsRow.lt ho g h).1)
theorem markInt64S_own (A : Option Addr) (c n : Nat) (xs : List Int) (k : Int) (base : Nat) (w : World) (hn : n ≤ 1099511627776) (h1 : 0 ≤ k) (h2 : k ≤ 1099511627776) (hl : xs.length = n) (ho : Own base w (.slice A n c) xs) :
    Calls Tryz.prog 20 #[.slice A n c, .int .i64 k] w fun e w' => e = .returned (.int .i64 (k + n)) ∧ Own base w' (.slice A n c) (marks k n) ∧ w.grownBy w' (Value.ownBlock (.slice A n c)) := by
  rcases ho.form with ⟨he, hx⟩ | ⟨g, c', he, _, _⟩
  · injection he with e1 e2 e3
    subst e1 e2 e3
    refine (markInt64S_nil k w).mono ?_
    rintro e w' ⟨rfl, rfl⟩
    exact ⟨by simp, Own.nil_ _ _, World.grownBy.refl _ _⟩
  · injection he with e1 e2 e3
    subst e1 e3
    refine (markInt64S_row g c n xs k base w hn h1 h2 hl (by have := ho; unfold Own at this; rw [hl] at this; exact this)).mono ?_
    rintro e w' ⟨rfl, h3, h4⟩
    exact ⟨rfl, by unfold Own; rw [marks_length]; exact h3, h4⟩
end Go.Proofs.YtejkoicgbgoiaaaGreat

/- A copy of a list of numbers by the library's Clone; whether a number is an index of a list. Conditions: the lengths that each theorem names. -/
namespace Go.Proofs.YtejkoicgbgoiaaaGreat
open Go.RowKit
open Pl
theorem Ints.none_nil {B : Nat} {w : World} {xs : List Int} (h : Ints B w none xs) : xs = [] := by
  cases xs with
  | nil => rfl
  | cons x xs => obtain ⟨ad, e, _⟩ := h (by simp); cases e
set_option maxRecDepth 100000 in
theorem Clone_any (A : Option Addr) (c : Nat) (xs : List Int) (B : Nat) (w : World) (hn : xs.length ≤ 1048576) (hI : Ints B w A xs) :
    Calls Tryz.prog 63 #[.slice A xs.length c] w fun e w' => ∃ v, e = .returned v ∧ Own w.heap.size w' v xs ∧ Below w.heap.size w w' := by
  have q22 : ∀ (w : World) (a : Option Addr) (n c n' c' : Nat), (binOp .eql 25 (.slice a n c) (.slice none n' c')).run Tryz.prog w = .ok (.bool a.isNone) w := fun w a n c n' c' => Lib.run_eql_slice_nil w _ _ a n c n' c' Tryz.underlying25
  cases A with
  | none =>
    obtain rfl := hI.none_nil
    go_enter Tryz.func63, Tryz.ntmps63
    go_wp2
    go_ret
    exact ⟨_, rfl, Own.nil_ _ _, Below.refl _ _⟩
  | some ad =>
    obtain ⟨i0, hi, hz0, hz1, hz2⟩ := info_parts infoI
    have J : Hid (∀ j u, (vals xs)[j]? = some u → w.cell? (ad.add j) = some u) := Lib.hid (by
      intro j u hj
      obtain ⟨hj', _⟩ := List.getElem?_eq_some_iff.1 hj
      rw [vals_length] at hj'
      rw [vals_get hj'] at hj
      injection hj with hj
      subst hj
      obtain ⟨ad', e, _, hc⟩ := hI.at_ hj'
      injection e with e
      subst e
      exact hc)
    clear hI
    have H1 : Hid (∀ u ∈ vals xs, u.oneCell' = true) := Lib.hid (by
      intro u hu
      unfold vals at hu
      obtain ⟨x, _, rfl⟩ := List.mem_map.1 hu
      rfl)
    have HF := Lib.hid (And.intro hi (And.intro hz0 (And.intro hz1 hz2)))
    clear hi hz0 hz1 hz2
    go_enter Tryz.func63, Tryz.ntmps63
    go_wp2_with (at_builtin; refine wpList_append_own _ rfl _ _ 25 rfl w.heap.size 2 i0 (.int .i64 0) 1 8 Tryz.underlying25 HF.out.1 HF.out.2.1 HF.out.2.2.1 HF.out.2.2.2 rfl (by decide) _ _ _ rfl (World.ownsRow_made w #[] 0 (Nat.le_refl _) (Nat.zero_le _) (by simp)) ad xs.length c (vals xs) rfl ?qc1 ?qc2 ?qc3 ?qc4 ?qc5 ?qc6 ?_)
    case qc1 => rw [vals_length, Nat.mul_one]
    case qc2 => intro j u hj; exact Lib.cell?_alloc_some _ (J.out j u hj)
    case qc3 => exact H1.out
    case qc4 => exact le_max (by omega)
    case qc5 => omega
    case qc6 => simp
    intro v' w1 hown hgrow hnil
    go_wp2
    go_ret
    refine ⟨v', rfl, ?_, ?_⟩
    · unfold Own; simpa using hown
    · exact ((Below.refl _ w).alloc (Nat.le_refl _) _).grown hgrow (by simp) (by intro k hk; simp [Value.ownBlock] at hk; omega)
end Go.Proofs.YtejkoicgbgoiaaaGreat

/- A region that draws its order, whose own operations only read, and whose callees may lay memory of their own: one walk of the text's order serves every order. No conditions. -/
namespace Go.Proofs.YtejkoicgbgoiaaaGreat
open Go.RowKit
/-- A later world: nothing of what lay in w has turned. -/
structure Later (w : World) where
  world : World
  below : Below w.heap.size w world
instance {w : World} : Nonempty (Later w) := ⟨⟨w, Below.refl _ _⟩⟩
theorem Later.cell {w : World} (L : Later w) {p : Addr} {v : Value} (h : w.cell? p = some v) : L.world.cell? p = some v := cell_later L.below h
theorem Later.size {w : World} (L : Later w) : w.heap.size ≤ L.world.heap.size := L.below.size
theorem wp_region_later {P : Program} {id : Nat} {Q : Exit → Act → World → Prop} {a : Act} {w : World} {l : List Oper} (hm : P.follows .mixedOrders = true) (hB : Region.lexB .any l.toArray = true)
    (h : wpQuiet P l.toArray (fun w' => ∃ L : Later w, w' = L.world) (fun a' => ∀ w', (∃ L : Later w, w' = L.world) → Q .normal a' w') l a) : (Code.region id l.toArray true).wp P Q a w :=
  wp_region_quiet (C := fun w' => ∃ L : Later w, w' = L.world) hm hB ⟨⟨_, (Below.refl _ _).drew⟩, rfl⟩ (by simpa using h)
theorem later_b {P : Program} {f : FuncId} {args : Array Value} {w : World} {L : Later w} {v : Value}
    (h : Calls P f args L.world fun e w' => e = .returned v ∧ Below L.world.heap.size L.world w') : Calls P f args L.world fun e w'' => e = .returned v ∧ ∃ L' : Later w, w'' = L'.world :=
  h.mono fun _ w' ⟨he, hb⟩ => ⟨he, ⟨w', L.below.trans (hb.mono L.below.size)⟩, rfl⟩
theorem later_d {P : Program} {f : FuncId} {args : Array Value} {w : World} {L : Later w} {v : Value}
    (h : Calls P f args L.world fun e w' => e = .returned v ∧ ∃ n, L.world.drewN n = w') : Calls P f args L.world fun e w'' => e = .returned v ∧ ∃ L' : Later w, w'' = L'.world :=
  h.mono fun _ w' ⟨he, n, hw⟩ => ⟨he, ⟨w', hw ▸ below_drewN L.below n⟩, rfl⟩
theorem later_s {P : Program} {f : FuncId} {args : Array Value} {w : World} {L : Later w} {v : Value}
    (h : Calls P f args L.world fun e w' => e = .returned v ∧ L.world = w') : Calls P f args L.world fun e w'' => e = .returned v ∧ ∃ L' : Later w, w'' = L'.world :=
  h.mono fun _ _ ⟨he, hw⟩ => ⟨he, L, hw.symm⟩
/-- A store into one cell of a block: the others. -/
theorem setc_ne {w : World} {b i j : Nat} {v x : Value} (h : w.cell? ⟨b, j, none⟩ = some x) (hij : i ≠ j) : (w.setCell ⟨b, i, none⟩ v).cell? ⟨b, j, none⟩ = some x := by
  exact (World.cell?_setCell_other _ _ _ _ (fun e => hij (by injection e))).trans h
theorem setc_eq {w : World} {b i : Nat} {v x : Value} (h : w.cell? ⟨b, i, none⟩ = some x) : (w.setCell ⟨b, i, none⟩ v).cell? ⟨b, i, none⟩ = some v := World.cell?_setCell_same _ _ _ h
end Go.Proofs.YtejkoicgbgoiaaaGreat

/- Contracts of functions that take a function: the least number with a property, by halving and in turn; whether an element of a list has a property. The premise on the function is named: what it returns at each number of the range, in every later world. Conditions: the bounds that each theorem names. -/
namespace Go.Proofs.YtejkoicgbgoiaaaGreat
open Go.RowKit
open Pl

/-- What is asked of a function value: at each x from lo to hi, in every later world, it returns p x; it may draw and lay blocks. -/
def Tells (g : FuncId) (cb : Array Value) (lo hi : Int) (p : Int → Bool) (w : World) : Prop :=
  ∀ (W : World) (x : Int), Below w.heap.size w W → lo ≤ x → x ≤ hi → Calls Tryz.prog g (#[.int .i64 x] ++ cb) W fun e w' => e = .returned (.bool (p x)) ∧ Below W.heap.size W w'

theorem ret_ib {a b : Int} {p q : Bool} (h1 : a = b) (h2 : p = q) : Ending.returned (.tuple #[.int .i64 a, .bool p]) = .returned (.tuple #[.int .i64 b, .bool q]) := by rw [h1, h2]

theorem Search_any (g : FuncId) (cb : Array Value) (eg : ∀ args w, (callFunc g args).run Tryz.prog w = .ok (.enter g args) w) (n k : Nat) (hn : n ≤ 4611686018427387904) (hk : k ≤ n) (w : World)
    (hf : ∀ (W : World) (i : Nat), Below w.heap.size w W → i < n → Calls Tryz.prog g (#[.int .i64 i] ++ cb) W fun e w' => e = .returned (.bool (decide (k ≤ i))) ∧ Below W.heap.size W w') :
    Calls Tryz.prog 165 #[.int .i64 n, .func (.func g) #[] cb] w fun e w' => e = .returned (.int .i64 k) ∧ Below w.heap.size w w' := by
  have HF := Lib.hid hf
  clear hf
  go_enter Tryz.func165, Tryz.ntmps165
  go_wp2
  go_loopg [5, 6] n (fun kx s5 s6 wr => ∃ lo hi : Nat, s5 = .int .i64 lo ∧ s6 = .int .i64 hi ∧ lo ≤ k ∧ k ≤ hi ∧ hi ≤ n ∧ hi - lo ≤ kx ∧ Below w.heap.size w wr)
  case atStart => exact ⟨0, n, rfl, rfl, by omega, by omega, by omega, by omega, Below.refl _ _⟩
  case round =>
    obtain ⟨lo, hi, rfl, rfl, h1, h2, h3, h4, hb⟩ := hrel
    by_cases hlt : lo < hi
    · have hc := HF.out _ ((lo + hi) / 2) hb (by omega)
      rw [show (((lo + hi) / 2 : Nat) : Int) = ((lo : Int) + (hi : Int)) / 2 by omega] at hc
      by_cases hp : k ≤ (lo + hi) / 2
      · rw [decide_eq_true hp] at hc
        have HP := Lib.hid hp
        have HC := Lib.hid hc
        clear hp hc
        go_wp2_with (go_at_fn g; refine HC.out.mono ?_; rintro e w' ⟨rfl, hb2⟩)
        go_roundg ((lo + hi) / 2 - lo)
        case measure => omega
        case rel =>
          have := HP.out
          exact ⟨lo, (lo + hi) / 2, rfl, by rw [show ((lo : Int) + (hi : Int)) / 2 = (((lo + hi) / 2 : Nat) : Int) by omega], by omega, by omega, by omega, by omega, hb.trans (hb2.mono hb.size)⟩
      · rw [decide_eq_false hp] at hc
        have HP := Lib.hid hp
        have HC := Lib.hid hc
        clear hp hc
        go_wp2_with (go_at_fn g; refine HC.out.mono ?_; rintro e w' ⟨rfl, hb2⟩)
        go_roundg (hi - ((lo + hi) / 2 + 1))
        case measure => omega
        case rel =>
          have := HP.out
          exact ⟨(lo + hi) / 2 + 1, hi, by rw [show ((lo : Int) + (hi : Int)) / 2 + 1 = (((lo + hi) / 2 + 1 : Nat) : Int) by omega], rfl, by omega, by omega, by omega, by omega, hb.trans (hb2.mono hb.size)⟩
    · obtain rfl : hi = lo := by omega
      obtain rfl : k = hi := by omega
      go_wp2
      go_ret
      exact ⟨rfl, hb⟩
/-- Whether an element of a list has a property: the first that has it is at place k, or none has. -/
theorem IndexFunc_any (g : FuncId) (cb : Array Value) (eg : ∀ args w, (callFunc g args).run Tryz.prog w = .ok (.enter g args) w) (A : Option Addr) (c : Nat) (xs : List Int) (B k : Nat) (p : Int → Bool) (w : World) (hn : (xs.length : Int) ≤ 1099511627776) (hI : Ints B w A xs) (hB : B ≤ w.heap.size) (hfit : Fits xs)
    (hf : Tells g cb (-9223372036854775808) 9223372036854775807 p w) (hk : k ≤ xs.length) (h1 : ∀ j (h : j < xs.length), j < k → p xs[j] = false) (h2 : ∀ h : k < xs.length, p xs[k] = true) :
    Calls Tryz.prog 158 #[.slice A xs.length c, .func (.func g) #[] cb] w fun e w' => e = .returned (.int .i64 (if k < xs.length then (k : Int) else -1)) ∧ Below w.heap.size w w' := by
  have HF := Lib.hid hf
  have H1 := Lib.hid h1
  have H2 := Lib.hid h2
  have HI := Lib.hid hI
  have HT := Lib.hid hfit
  clear hf h1 h2 hI hfit
  go_enter Tryz.func158, Tryz.ntmps158
  go_wp2
  go_loopw [8] (fun i wr => ∃ j : Nat, j ≤ k ∧ i = .int .i64 j ∧ Below w.heap.size w wr) (fun i _ => xs.length - (intOf i).toNat)
  case atStart => exact ⟨0, Nat.zero_le _, rfl, Below.refl _ _⟩
  case round =>
    obtain ⟨j, hj, rfl, hb⟩ := hrel
    by_cases hlt : j < k
    · obtain ⟨ad, rfl, hab, hc0⟩ := HI.out.at_ (k := j) (by omega)
      have hcell := (hb.cell (p := ad.add j) (by rw [block_add]; omega)).trans hc0
      obtain ⟨f1, f2⟩ := HT.out xs[j] (List.getElem_mem _)
      have hc := HF.out wr xs[j] hb f1 f2
      rw [H1.out j (by omega) hlt] at hc
      generalize xs[j]'(by omega) = x at *
      have HC := Lib.hid hc
      clear hc hc0
      go_wp2_with (go_at_fn g; refine HC.out.mono ?_; rintro e w' ⟨rfl, hb2⟩)
      go_roundw
      case rel => exact ⟨j + 1, by omega, by go_num, hb.trans (hb2.mono hb.size)⟩
      case measure => simp [intOf]; omega
    · obtain rfl : j = k := by omega
      by_cases hh : j < xs.length
      · obtain ⟨ad, rfl, hab, hc0⟩ := HI.out.at_ (k := j) hh
        have hcell := (hb.cell (p := ad.add j) (by rw [block_add]; omega)).trans hc0
        obtain ⟨f1, f2⟩ := HT.out xs[j] (List.getElem_mem _)
        have hc := HF.out wr xs[j] hb f1 f2
        rw [H2.out hh] at hc
        generalize xs[j] = x at *
        have HC := Lib.hid hc
        clear hc hc0
        go_wp2_with (go_at_fn g; refine HC.out.mono ?_; rintro e w' ⟨rfl, hb2⟩)
        go_ret
        exact ⟨rfl, hb.trans (hb2.mono hb.size)⟩
      · go_wp2
        go_ret
        exact ⟨rfl, hb⟩
theorem first_such (p : Int → Bool) (xs : List Int) : ∃ k, k ≤ xs.length ∧ (∀ j (h : j < xs.length), j < k → p xs[j] = false) ∧ (∀ h : k < xs.length, p xs[k] = true) ∧ (xs.any p = decide (k < xs.length)) := by
  induction xs with
  | nil => exact ⟨0, by simp, by simp, by simp, by simp⟩
  | cons x xs ih =>
    cases hp : p x
    · obtain ⟨k, h1, h2, h3, h4⟩ := ih
      refine ⟨k + 1, by simpa using h1, ?_, ?_, ?_⟩
      · intro j h hj
        cases j with
        | zero => exact hp
        | succ j => exact h2 j (by simpa using h) (by omega)
      · intro h
        exact h3 (by simpa using h)
      · rw [List.any_cons, hp, h4]; simp
    · exact ⟨0, by simp, by intro j h hj; omega, fun _ => hp, by simp [hp]⟩
theorem ContainsFunc_any (g : FuncId) (cb : Array Value) (eg : ∀ args w, (callFunc g args).run Tryz.prog w = .ok (.enter g args) w) (A : Option Addr) (c : Nat) (xs : List Int) (B : Nat) (p : Int → Bool) (w : World) (hn : (xs.length : Int) ≤ 1099511627776) (hI : Ints B w A xs) (hB : B ≤ w.heap.size) (hfit : Fits xs)
    (hf : Tells g cb (-9223372036854775808) 9223372036854775807 p w) :
    Calls Tryz.prog 123 #[.slice A xs.length c, .func (.func g) #[] cb] w fun e w' => e = .returned (.bool (xs.any p)) ∧ Below w.heap.size w w' := by
  obtain ⟨k, hk, h1, h2, h3⟩ := first_such p xs
  rw [h3]
  have HX := Lib.hid (IndexFunc_any g cb eg A c xs B k p w hn hI hB hfit hf hk h1 h2)
  clear h1 h2 h3 hf hI hfit
  by_cases hh : k < xs.length
  · rw [if_pos hh] at HX
    go_enter Tryz.func123, Tryz.ntmps123
    go_wp2_with (go_at_call 158; refine HX.out.mono ?_; rintro e w' ⟨rfl, hb⟩)
    go_ret
    exact ⟨by simp [hh], hb⟩
  · rw [if_neg hh] at HX
    go_enter Tryz.func123, Tryz.ntmps123
    go_wp2_with (go_at_call 158; refine HX.out.mono ?_; rintro e w' ⟨rfl, hb⟩)
    go_ret
    exact ⟨by simp [hh], hb⟩
/-- All numbers of a list lie in a range. -/
def allIn (xs : List Int) (lo hi : Int) : Bool := xs.all fun x => inB x lo hi
theorem allIn_iff {xs : List Int} {lo hi : Int} : allIn xs lo hi = true ↔ ∀ x ∈ xs, lo ≤ x ∧ x ≤ hi := by unfold allIn; rw [List.all_eq_true]; exact ⟨fun h x hx => inB_iff.1 (h x hx), fun h x hx => inB_iff.2 (h x hx)⟩
theorem range_split (xs : List Int) (lo hi : Int) :
    (allIn xs lo hi = true ∧ ∀ k (h : k < xs.length), inB xs[k] lo hi = true) ∨
    (allIn xs lo hi = false ∧ ∃ b, ∃ hb : b < xs.length, inB xs[b] lo hi = false ∧ ∀ k (h : k < b), inB (xs[k]'(Nat.lt_trans h hb)) lo hi = true) := by
  obtain ⟨k, h1, h2, h3, h4⟩ := first_such (fun x => !inB x lo hi) xs
  have e : allIn xs lo hi = !(xs.any fun x => !inB x lo hi) := by unfold allIn; rw [List.not_any_eq_all_not]; simp
  rw [e, h4]
  by_cases hk : k < xs.length
  · right
    refine ⟨by simp [hk], k, hk, by simpa using h3 hk, fun j hj => ?_⟩
    simpa using h2 j (Nat.lt_trans hj hk) hj
  · left
    refine ⟨by simp [hk], fun j hj => ?_⟩
    simpa using h2 j hj (by omega)
theorem allWithin_any (A : Option Addr) (c : Nat) (xs : List Int) (lo hi : Int) (B : Nat) (w : World) (hn : (xs.length : Int) ≤ 1099511627776) (hI : Ints B w A xs) (hB : B ≤ w.heap.size) (hfit : Fits xs) :
    Calls Tryz.prog 90 #[.slice A xs.length c, .int .i64 lo, .int .i64 hi] w fun e w' => e = .returned (.bool (allIn xs lo hi)) ∧ Below w.heap.size w w' := by
  have e : allIn xs lo hi = !(xs.any fun x => !inB x lo hi) := by unfold allIn; rw [List.not_any_eq_all_not]; simp
  rw [e]
  clear e
  have HI := Lib.hid hI
  have HT := Lib.hid hfit
  clear hI hfit
  go_enter Tryz.func90, Tryz.ntmps90
  go_wp2_with fail
  have hb0 : Below w.heap.size w ((w.alloc (.cells #[.int .i64 lo] 2)).alloc (.cells #[.int .i64 hi] 2)) := ((Below.refl w.heap.size w).alloc (Nat.le_refl _) _).alloc (by simp) _
  refine (ContainsFunc_any 124 _ (enters_of Tryz.func124 (by kernel_rfl) rfl) A c xs w.heap.size (fun x => !inB x lo hi) _ hn (HI.out.more hB |>.below hb0) (by simp only [World.size_alloc]; omega) HT.out ?_).mono ?_
  · intro W x hb _ _
    obtain ⟨hc, _⟩ := bcell hb
    have c0 := (hc _ _ (by simp only [World.size_alloc]; omega)).trans (box2 w (.int .i64 lo) (.int .i64 hi) 2 2).1
    have c1 := (hc _ _ (by simp)).trans (box2 w (.int .i64 lo) (.int .i64 hi) 2 2).2
    clear hc
    show Calls _ _ #[.int .i64 x, .pointer (some ⟨w.heap.size, 0, none⟩), .pointer (some ⟨w.heap.size + 1, 0, none⟩)] _ _
    go_enter Tryz.func124, Tryz.ntmps124
    go_wp2_with (go_at_call 43; refine (within_any _ _ _ _).mono ?_; rintro e w' ⟨rfl, rfl⟩)
    go_ret
    exact ⟨rfl, Below.refl _ _⟩
  · rintro e w' ⟨rfl, hb⟩
    go_wp2
    go_ret
    exact ⟨rfl, hb0.trans (hb.mono (by simp; omega))⟩
end Go.Proofs.YtejkoicgbgoiaaaGreat

/- A callee that draws, met inside a region that draws its order. No conditions. -/
namespace Go.Proofs.YtejkoicgbgoiaaaGreat
open Go.RowKit
theorem quiet_d {P : Program} {f : FuncId} {args : Array Value} {w : World} {n : Nat} {v : Value}
    (h : Calls P f args (w.drewN n) fun e w' => e = .returned v ∧ ∃ m, (w.drewN n).drewN m = w') : Calls P f args (w.drewN n) fun e w'' => e = .returned v ∧ ∃ m, w'' = w.drewN m :=
  h.mono fun _ _ ⟨he, m, hm⟩ => ⟨he, n + m, by rw [← hm, World.drewN_drewN]⟩
theorem quiet_d2 {P : Program} {f : FuncId} {args : Array Value} {w : World} {a n : Nat} {v : Value}
    (h : Calls P f args (w.drewN (a + n)) fun e w' => e = .returned v ∧ ∃ m, (w.drewN (a + n)).drewN m = w') : Calls P f args (w.drewN (a + n)) fun e w'' => e = .returned v ∧ ∃ m, w'' = w.drewN (a + m) :=
  h.mono fun _ _ ⟨he, m, hm⟩ => ⟨he, n + m, by rw [← hm, World.drewN_drewN, Nat.add_assoc]⟩
theorem quiet_s {P : Program} {f : FuncId} {args : Array Value} {w : World} {n : Nat} {v : Value}
    (h : Calls P f args (w.drewN n) fun e w' => e = .returned v ∧ w.drewN n = w') : Calls P f args (w.drewN n) fun e w'' => e = .returned v ∧ ∃ m, w'' = w.drewN m :=
  h.mono fun _ _ ⟨he, hm⟩ => ⟨he, n, hm.symm⟩
theorem quiet_s2 {P : Program} {f : FuncId} {args : Array Value} {w : World} {a n : Nat} {v : Value}
    (h : Calls P f args (w.drewN (a + n)) fun e w' => e = .returned v ∧ w.drewN (a + n) = w') : Calls P f args (w.drewN (a + n)) fun e w'' => e = .returned v ∧ ∃ m, w'' = w.drewN (a + m) :=
  h.mono fun _ _ ⟨he, hm⟩ => ⟨he, n, hm.symm⟩
end Go.Proofs.YtejkoicgbgoiaaaGreat

/- A loop that asks each place of a list in turn and stops at the first that fails; whether a list rises: the program's test and the reference's. Conditions: the lengths that each theorem names. -/
namespace Go.Proofs.YtejkoicgbgoiaaaGreat
open Go.RowKit
open Pl
/-- All places below n have a property. -/
def allUp (P : Nat → Bool) : Nat → Bool | 0 => true | n + 1 => allUp P n && P n
theorem allUp_iff (P : Nat → Bool) (n : Nat) : allUp P n = true ↔ ∀ k, k < n → P k = true := by
  induction n with
  | zero => simp [allUp]
  | succ n ih =>
    unfold allUp
    rw [Bool.and_eq_true, ih]
    constructor
    · rintro ⟨h1, h2⟩ k hk
      by_cases e : k = n
      · subst e; exact h2
      · exact h1 k (by omega)
    · intro h; exact ⟨fun k hk => h k (by omega), h n (by omega)⟩
theorem first_stop (P : Nat → Bool) : ∀ n, ∃ m, m ≤ n ∧ (∀ k, k < m → P k = true) ∧ (m < n → P m = false)
  | 0 => ⟨0, by omega, fun k h => by omega, fun h => by omega⟩
  | n + 1 => by
    obtain ⟨m, h1, h2, h3⟩ := first_stop P n
    by_cases e : m < n
    · exact ⟨m, by omega, h2, fun _ => h3 e⟩
    · have e : m = n := by omega
      subst e
      cases hp : P m
      · exact ⟨m, by omega, h2, fun _ => hp⟩
      · exact ⟨m + 1, by omega, fun k hk => by by_cases e : k = m; (subst e; exact hp); exact h2 k (by omega), fun h => by omega⟩
theorem allUp_stop {P : Nat → Bool} {n m : Nat} (h1 : m ≤ n) (h2 : ∀ k, k < m → P k = true) (h3 : m < n → P m = false) : allUp P n = decide (m = n) := by
  rw [Bool.eq_iff_iff, allUp_iff, decide_eq_true_iff]
  constructor
  · intro h
    by_cases e : m < n
    · have := h m e; rw [h3 e] at this; simp at this
    · omega
  · intro e; subst e; exact h2
/-- The first place below n that hasn't a property; n, if all have. -/
def stopAt (P : Nat → Bool) : Nat → Nat | 0 => 0 | n + 1 => if stopAt P n < n then stopAt P n else if P n then n + 1 else n
theorem stopAt_spec (P : Nat → Bool) : ∀ n, stopAt P n ≤ n ∧ (∀ k, k < stopAt P n → P k = true) ∧ (stopAt P n < n → P (stopAt P n) = false)
  | 0 => ⟨by simp [stopAt], fun k h => by simp [stopAt] at h, fun h => by simp [stopAt] at h⟩
  | n + 1 => by
    obtain ⟨h1, h2, h3⟩ := stopAt_spec P n
    unfold stopAt
    by_cases e : stopAt P n < n
    · rw [if_pos e]; exact ⟨by omega, h2, fun _ => h3 e⟩
    · rw [if_neg e]
      have e : stopAt P n = n := by omega
      rw [e] at h2
      cases hp : P n
      · simp only [Bool.false_eq_true, if_false]; exact ⟨by omega, h2, fun _ => hp⟩
      · simp only [if_true]; exact ⟨by omega, fun k hk => by by_cases e : k = n; (subst e; exact hp); exact h2 k (by omega), fun h => by omega⟩
theorem getD_pt {xs : List Int} {k : Nat} (h : k < xs.length) : xs.getD k 0 = xs[k] := by simp [List.getD, h]
theorem Ints.atD {B : Nat} {w : World} {A : Option Addr} {xs : List Int} (h : Ints B w A xs) {k : Nat} (hk : k < xs.length) : ∃ ad, A = some ad ∧ ad.block < B ∧ w.cell? (ad.add k) = some (.int .i64 (xs.getD k 0)) := by
  rw [getD_pt hk]; exact h.at_ hk
theorem Fits.atD {xs : List Int} (h : Fits xs) (k : Nat) : -9223372036854775808 ≤ xs.getD k 0 ∧ xs.getD k 0 ≤ 9223372036854775807 := by
  by_cases hk : k < xs.length
  · rw [getD_pt hk]; exact h _ (List.getElem_mem hk)
  · simp [List.getD, List.getElem?_eq_none (by omega : xs.length ≤ k)]
/-- A list rises. -/
def incP (xs : List Int) (k : Nat) : Bool := decide (k = 0) || decide (xs.getD (k - 1) 0 < xs.getD k 0)
def incB (xs : List Int) : Bool := allUp (incP xs) xs.length
theorem incP_succ (xs : List Int) (k : Nat) : incP xs (k + 1) = decide (xs.getD k 0 < xs.getD (k + 1) 0) := by unfold incP; simp
theorem allIn_up (xs : List Int) (lo hi : Int) : allIn xs lo hi = allUp (fun k => inB (xs.getD k 0) lo hi) xs.length := by
  rw [Bool.eq_iff_iff, allUp_iff, allIn_iff]
  constructor
  · intro h k hk; rw [getD_pt hk]; exact inB_mk (h _ (List.getElem_mem hk))
  · intro h x hx
    obtain ⟨k, hk, rfl⟩ := List.getElem_of_mem hx
    have := h k hk
    rw [getD_pt hk] at this
    exact inB_iff.1 this
theorem allUp_and (P Q : Nat → Bool) (n : Nat) : allUp (fun k => P k && Q k) n = (allUp P n && allUp Q n) := by
  rw [Bool.eq_iff_iff, Bool.and_eq_true, allUp_iff, allUp_iff, allUp_iff]
  constructor
  · intro h; exact ⟨fun k hk => (Bool.and_eq_true _ _ ▸ h k hk).1, fun k hk => (Bool.and_eq_true _ _ ▸ h k hk).2⟩
  · rintro ⟨h1, h2⟩ k hk; rw [Bool.and_eq_true]; exact ⟨h1 k hk, h2 k hk⟩
theorem ret_ii {a b c d : Int} (h : (a, b) = (c, d)) : Ending.returned (.tuple #[.int .i64 a, .int .i64 b]) = .returned (.tuple #[.int .i64 c, .int .i64 d]) := by injection h with h1 h2; rw [h1, h2]
theorem ret_bool {a b : Bool} (h : a = b) : Ending.returned (.bool a) = .returned (.bool b) := by rw [h]
end Go.Proofs.YtejkoicgbgoiaaaGreat

/- Lists of lists of numbers: what one is in memory; the laws' own functions on them: a copy, a comparison, a size; how an argument of that shape opens. Conditions: the lengths that each theorem names. -/
namespace Go.Proofs.YtejkoicgbgoiaaaGreat
open Go.RowKit
open Pl
/-- 'Nest B w A xss': from address A on lie slices that read as the lists xss, all in blocks below B. -/
def Nest (B : Nat) (w : World) (A : Option Addr) (xss : List (List Int)) : Prop :=
  0 < xss.length → ∃ b o, A = some ⟨b, o, none⟩ ∧ b < B ∧ ∀ k (h : k < xss.length), ∃ A' c, w.cell? ⟨b, o + k, none⟩ = some (.slice A' xss[k].length c) ∧ Ints B w A' xss[k]
theorem Nest.nil {B : Nat} {w : World} {A : Option Addr} : Nest B w A [] := fun h => by simp at h
theorem Nest.below {B : Nat} {w w' : World} {A : Option Addr} {xss : List (List Int)} (h : Nest B w A xss) (hb : Below B w w') : Nest B w' A xss := by
  intro hn
  obtain ⟨b, o, e, hlt, hc⟩ := h hn
  refine ⟨b, o, e, hlt, fun k hk => ?_⟩
  obtain ⟨A', c, h1, h2⟩ := hc k hk
  exact ⟨A', c, (hb.cell (p := ⟨b, o + k, none⟩) hlt).trans h1, h2.below hb⟩
theorem Nest.more {B B' : Nat} {w : World} {A : Option Addr} {xss : List (List Int)} (h : Nest B w A xss) (hB : B ≤ B') : Nest B' w A xss := by
  intro hn
  obtain ⟨b, o, e, hlt, hc⟩ := h hn
  refine ⟨b, o, e, by omega, fun k hk => ?_⟩
  obtain ⟨A', c, h1, h2⟩ := hc k hk
  exact ⟨A', c, h1, h2.more hB⟩
theorem Nest.later {w w' : World} {A : Option Addr} {xss : List (List Int)} (h : Nest w.heap.size w A xss) (hb : Below w.heap.size w w') : Nest w'.heap.size w' A xss := (h.below hb).more hb.size
theorem Nest.at_ {B : Nat} {w : World} {A : Option Addr} {xss : List (List Int)} (h : Nest B w A xss) {k : Nat} (hk : k < xss.length) : ∃ b o, A = some ⟨b, o, none⟩ ∧ b < B ∧ ∃ A' c, w.cell? ⟨b, o + k, none⟩ = some (.slice A' xss[k].length c) ∧ Ints B w A' xss[k] := by
  obtain ⟨b, o, e, hb, hc⟩ := h (by omega)
  exact ⟨b, o, e, hb, hc k hk⟩
theorem Ints.setCell {B : Nat} {w : World} {A : Option Addr} {xs : List Int} (h : Ints B w A xs) {p : Addr} {v : Value} (hne : ∀ ad, A = some ad → ad.block ≠ p.block) : Ints B (w.setCell p v) A xs := by
  intro hn
  obtain ⟨ad, e, hlt, hc⟩ := h hn
  refine ⟨ad, e, hlt, fun k hk => ?_⟩
  rw [World.cell?_setCell_other _ _ _ _ (fun e' => hne ad e (by rw [← block_add ad k]; exact (congrArg Addr.block e').symm))]
  exact hc k hk
/-- As 'Nest', and all of it in blocks from L on. -/
def NestL (L B : Nat) (w : World) (A : Option Addr) (xss : List (List Int)) : Prop :=
  0 < xss.length → ∃ b o, A = some ⟨b, o, none⟩ ∧ L ≤ b ∧ b < B ∧ ∀ k (h : k < xss.length), ∃ A' c, w.cell? ⟨b, o + k, none⟩ = some (.slice A' xss[k].length c) ∧ Ints B w A' xss[k] ∧ ∀ ad, A' = some ad → L ≤ ad.block
theorem NestL.nest {L B : Nat} {w : World} {A : Option Addr} {xss : List (List Int)} (h : NestL L B w A xss) : Nest B w A xss := by
  intro hn
  obtain ⟨b, o, e, _, hlt, hc⟩ := h hn
  refine ⟨b, o, e, hlt, fun k hk => ?_⟩
  obtain ⟨A', c, h1, h2, _⟩ := hc k hk
  exact ⟨A', c, h1, h2⟩
theorem NestL.later {L : Nat} {w w' : World} {A : Option Addr} {xss : List (List Int)} (h : NestL L w.heap.size w A xss) (hb : Below w.heap.size w w') : NestL L w'.heap.size w' A xss := by
  intro hn
  obtain ⟨b, o, e, hl, hlt, hc⟩ := h hn
  refine ⟨b, o, e, hl, Nat.lt_of_lt_of_le hlt hb.size, fun k hk => ?_⟩
  obtain ⟨A', c, h1, h2, h3⟩ := hc k hk
  exact ⟨A', c, (hb.cell (p := ⟨b, o + k, none⟩) hlt).trans h1, (h2.below hb).more hb.size, h3⟩
theorem NestL.less {L L' B : Nat} {w : World} {A : Option Addr} {xss : List (List Int)} (h : NestL L B w A xss) (hL : L' ≤ L) : NestL L' B w A xss := by
  intro hn
  obtain ⟨b, o, e, hl, hlt, hc⟩ := h hn
  refine ⟨b, o, e, by omega, hlt, fun k hk => ?_⟩
  obtain ⟨A', c, h1, h2, h3⟩ := hc k hk
  exact ⟨A', c, h1, h2, fun ad ha => by have := h3 ad ha; omega⟩
theorem NestL.setCell {L B : Nat} {w : World} {A : Option Addr} {xss : List (List Int)} (h : NestL L B w A xss) {p : Addr} {v : Value} (hp : p.block < L) : NestL L B (w.setCell p v) A xss := by
  intro hn
  obtain ⟨b, o, e, hl, hlt, hc⟩ := h hn
  refine ⟨b, o, e, hl, hlt, fun k hk => ?_⟩
  obtain ⟨A', c, h1, h2, h3⟩ := hc k hk
  refine ⟨A', c, ?_, Ints.setCell h2 (fun ad ha => by have := h3 ad ha; omega), h3⟩
  rw [World.cell?_setCell_other _ _ _ _ (fun e' => by have := congrArg Addr.block e'; simp at this; omega)]
  exact h1
theorem szInt64S_yes (A : Option Addr) (c n : Nat) (left : Int) (w : World) (h0 : left ≤ 1048576) (h : (n : Int) ≤ left) :
    Calls Tryz.prog 50 #[.slice A n c, .int .i64 left] w fun e w' => e = .returned (.int .i64 (left - n)) ∧ w = w' := by
  go_enter Tryz.func50, Tryz.ntmps50
  go_wp2
  go_ret
  exact ⟨rfl, rfl⟩
theorem szInt64S_no (A : Option Addr) (c n : Nat) (left : Int) (w : World) (h1 : 0 ≤ left) (h0 : left ≤ 1048576) (hn : n ≤ maxLen) (h : left < (n : Int)) :
    Calls Tryz.prog 50 #[.slice A n c, .int .i64 left] w fun e w' => e = .returned (.int .i64 (-1)) ∧ w = w' := by
  unfold maxLen at hn
  go_enter Tryz.func50, Tryz.ntmps50
  go_wp2
  go_ret
  exact ⟨rfl, rfl⟩
/-- How many numbers the first k lists hold. -/
def totLen (xss : List (List Int)) : Nat → Int | 0 => 0 | k + 1 => totLen xss k + (xss.getD k []).length
theorem totLen_nonneg (xss : List (List Int)) : ∀ k, 0 ≤ totLen xss k
  | 0 => by simp [totLen]
  | k + 1 => by have := totLen_nonneg xss k; unfold totLen; omega
theorem totLen_mono (xss : List (List Int)) : ∀ (d k : Nat), totLen xss k ≤ totLen xss (k + d)
  | 0, k => Int.le_refl _
  | d + 1, k => by have := totLen_mono xss d k; have e : totLen xss (k + (d + 1)) = totLen xss (k + d) + (xss.getD (k + d) []).length := rfl; omega
def szL (xss : List (List Int)) (left : Int) : Int := if (xss.length : Int) + totLen xss xss.length ≤ left then left - xss.length - totLen xss xss.length else -1
theorem getD_il {xss : List (List Int)} {k : Nat} (h : k < xss.length) : xss.getD k [] = xss[k] := by simp [List.getD, h]
theorem Nest.atD {B : Nat} {w : World} {A : Option Addr} {xss : List (List Int)} (h : Nest B w A xss) {k : Nat} (hk : k < xss.length) : ∃ b o, A = some ⟨b, o, none⟩ ∧ b < B ∧ ∃ A' c, w.cell? ⟨b, o + k, none⟩ = some (.slice A' (xss.getD k []).length c) ∧ Ints B w A' (xss.getD k []) := by
  rw [getD_il hk]; exact h.at_ hk
theorem szInt64SS_any (A : Option Addr) (c : Nat) (xss : List (List Int)) (left : Int) (B : Nat) (w : World) (h1 : 0 ≤ left) (h0 : left ≤ 1048576) (hn : xss.length ≤ maxLen) (hl : ∀ xs ∈ xss, xs.length ≤ maxLen) (hI : Nest B w A xss) :
    Calls Tryz.prog 49 #[.slice A xss.length c, .int .i64 left] w fun e w' => e = .returned (.int .i64 (szL xss left)) ∧ w = w' := by
  obtain ⟨R, hR⟩ : ∃ R, R = szL xss left := ⟨_, rfl⟩
  rw [← hR]
  have HR := Lib.hid hR
  clear hR
  have J := Lib.hid hI
  clear hI
  have HL := Lib.hid hl
  clear hl
  have HN := Lib.hid (totLen_nonneg xss)
  have hz := HN.out xss.length
  unfold maxLen at hn
  by_cases h2 : left < xss.length
  · have HF : Hid (szL xss left = -1) := Lib.hid (by unfold szL; rw [if_neg (by omega)])
    clear hz
    go_enter Tryz.func49, Tryz.ntmps49
    go_wp2
    go_ret
    exact ⟨ret_int (by rw [HR.out, HF.out]), rfl⟩
  obtain ⟨m, m1, m2, m3⟩ := first_stop (fun k => decide ((xss.length : Int) + totLen xss (k + 1) ≤ left)) xss.length
  have M2 := Lib.hid m2
  have M3 := Lib.hid m3
  clear m2 m3 hz
  go_enter Tryz.func49, Tryz.ntmps49
  go_wp2
  go_loop [1, 5] (fun s i => ∃ k : Nat, k ≤ m ∧ i = .int .i64 k ∧ s = .int .i64 (left - xss.length - totLen xss k) ∧ (xss.length : Int) + totLen xss k ≤ left) (fun _ i => xss.length - (intOf i).toNat)
  case atStart => exact ⟨0, Nat.zero_le _, rfl, by simp [totLen], by simp [totLen]; omega⟩
  case round =>
    obtain ⟨k, hk, rfl, rfl, hle⟩ := hrel
    have hz := HN.out k
    by_cases hlt : k < xss.length
    · obtain ⟨b, o, rfl, _, A', c', hc, _⟩ := J.out.atD hlt
      have hs : totLen xss (k + 1) = totLen xss k + (xss.getD k []).length := rfl
      have hlen : (xss.getD k []).length ≤ maxLen := by rw [getD_il hlt]; exact HL.out _ (List.getElem_mem hlt)
      have i0 : (0 : Int) ≤ (k : Int) := by omega
      have i1 : (k : Int) < xss.length := by omega
      have HS := Lib.hid hs
      by_cases hkm : k < m
      · have hp := of_decide_eq_true (M2.out k hkm)
        rw [hs] at hp
        generalize totLen xss k = t at *
        generalize (xss.getD k []).length = ln at *
        have HZ := Lib.hid (fun W => szInt64S_yes A' c' ln (left - xss.length - t) W (by omega) (by omega))
        clear hs hlen
        go_wp2_with (go_at_call 50; refine (HZ.out _).mono ?_; rintro e w' ⟨rfl, rfl⟩)
        go_round
        case rel => exact ⟨k + 1, by omega, by go_num, by rw [HS.out]; go_num, by rw [HS.out]; omega⟩
        case measure => simp [intOf]; omega
      · obtain rfl : m = k := by omega
        have hp := of_decide_eq_false (M3.out hlt)
        rw [hs] at hp
        have HF : Hid (szL xss left = -1) := Lib.hid (by
          unfold szL
          have h5 := totLen_mono xss (xss.length - (m + 1)) (m + 1)
          rw [show m + 1 + (xss.length - (m + 1)) = xss.length by omega] at h5
          rw [if_neg (by omega)])
        generalize totLen xss m = t at *
        generalize (xss.getD m []).length = ln at *
        have HZ := Lib.hid (fun W => szInt64S_no A' c' ln (left - xss.length - t) W (by omega) (by omega) hlen (by omega))
        clear hs hlen
        go_wp2_with (go_at_call 50; refine (HZ.out _).mono ?_; rintro e w' ⟨rfl, rfl⟩)
        go_ret
        exact ⟨ret_int (by rw [HR.out, HF.out]), rfl⟩
    · obtain rfl : k = xss.length := by omega
      have HF : Hid (szL xss left = left - xss.length - totLen xss xss.length) := Lib.hid (by unfold szL; rw [if_pos hle])
      generalize totLen xss xss.length = t at *
      go_wp2
      go_ret
      exact ⟨ret_int (by rw [HR.out, HF.out]), rfl⟩
theorem infoII : (Tryz.prog.info? 25).map (fun i => (i.zero, i.size, i.bytes)) = some (some (.slice none 0 0), 1, 24) := by kernel_rfl
/-- The lists that have been copied so far. -/
def Copied (g : Nat) (w : World) (zs : List Value) (xss : List (List Int)) (k : Nat) : Prop :=
  ∀ j (h : j < xss.length), j < k → ∃ A' c, zs[j]? = some (.slice A' xss[j].length c) ∧ Ints w.heap.size w A' xss[j] ∧ ∀ ad, A' = some ad → g < ad.block
set_option maxRecDepth 100000 in
theorem toInt64SS_low (A : Option Addr) (c : Nat) (xss : List (List Int)) (B : Nat) (w : World) (hn : xss.length ≤ 1048576) (hl : ∀ xs ∈ xss, xs.length ≤ 1048576) (hI : Nest B w A xss) (hB : B ≤ w.heap.size) :
    Calls Tryz.prog 54 #[.slice A xss.length c] w fun e w' => e = .returned (.slice (some ⟨w.heap.size, 0, none⟩) xss.length xss.length) ∧ NestL w.heap.size w'.heap.size w' (some ⟨w.heap.size, 0, none⟩) xss ∧ Below w.heap.size w w' := by
  obtain ⟨i0, hi, hz0, hz1, hz2⟩ := info_parts infoII
  have hbb : i0.bytes * xss.length ≤ 281474976710656 := by rw [hz2]; omega
  have hmx : xss.length ≤ maxLen := le_max (by omega)
  have J := Lib.hid (hI.more hB)
  have HL := Lib.hid hl
  clear hI hl
  go_enter Tryz.func54, Tryz.ntmps54
  go_wp2_with (at_make; refine wpList_make_full _ rfl (.tmp 6) (.tmp 6) 48 rfl w.heap.size 25 i0 (.slice none 0 0) 1 Tryz.underlying48 hi hz0 hz1 .i64 .i64 (xss.length : Int) (xss.length : Int) xss.length rfl rfl rfl rfl hbb hmx (Nat.le_refl _) ?_; intro w1 hown hgr)
  have hbe : Below w.heap.size w w1 := (Below.refl _ _).grown hgr (Nat.le_refl _) (fun k hk => by cases hk)
  have HO : ∃ zs : List Value, zs.length = xss.length ∧ (∀ z ∈ zs, z.oneCell' = true) ∧ w1.ownsRow w.heap.size 25 1 (.slice (some ⟨w.heap.size, 0, none⟩) xss.length xss.length) xss.length zs := by
    have e : (madeCells (Value.slice none 0 0).cells (xss.length * 1)).toList = List.replicate xss.length (Value.slice none 0 0) := by
      rw [Nat.mul_one]; exact toList_madeCells_one _ _
    rw [e] at hown
    exact ⟨_, by simp, fun z hz => by rw [List.eq_of_mem_replicate hz]; rfl, hown⟩
  clear hown hgr hbb hmx hi hz0 hz1 hz2
  have HH := Lib.hid HO
  clear HO
  go_wp2
  go_loopw [4] (fun i wr => ∃ k : Nat, k ≤ xss.length ∧ i = .int .i64 k ∧ Below w.heap.size w wr ∧ w.heap.size < wr.heap.size ∧ ∃ zs : List Value, zs.length = xss.length ∧ Copied w.heap.size wr zs xss k ∧ wr.ownsRow w.heap.size 25 1 (.slice (some ⟨w.heap.size, 0, none⟩) xss.length xss.length) xss.length zs) (fun i _ => xss.length - (intOf i).toNat)
  case atStart =>
    obtain ⟨zs, h1, h2, h3⟩ := HH.out
    exact ⟨0, Nat.zero_le _, rfl, hbe, (World.ownsRow.lt h3 _ rfl).2, zs, h1, fun j _ hj => by omega, h3⟩
  case round =>
    obtain ⟨k, hk, rfl, hb, hlt2, zs, hz, ht, ho⟩ := hrel
    by_cases hlt : k < xss.length
    · obtain ⟨b, o, rfl, hab, A', c', hc, hI'⟩ := (J.out.below hb).at_ hlt
      have HT := Lib.hid ht
      have HZ := Lib.hid hz
      have HO := Lib.hid ho
      have HC := Lib.hid (toInt64S_any A' c' xss[k] w.heap.size wr (HL.out _ (List.getElem_mem hlt)) hI' hb.size)
      have i0 : (0 : Int) ≤ (k : Int) := by omega
      have i1 : (k : Int) < xss.length := by omega
      clear hI' ht hz ho
      generalize hx : xss[k] = xs at *
      have HX := Lib.hid hx
      clear hx
      go_wp2_with fail
      refine HC.out.mono ?_
      rintro e w2 ⟨rfl, ho2, hb2⟩
      have hown2 := HO.out
      have hbw : Below w.heap.size w w2 := hb.trans (hb2.mono hb.size)
      have hz2 : wr.heap.size ≤ w2.heap.size := hb2.size
      have hO2 : w2.ownsRow w.heap.size 25 1 (.slice (some ⟨w.heap.size, 0, none⟩) xss.length xss.length) xss.length zs := by
        refine ⟨hown2.1, ?_⟩
        rcases hown2.2 with hn' | ⟨g, cap, cur, e1, e2, e3, rest⟩
        · exact .inl hn'
        · refine .inr ⟨g, cap, cur, e1, e2, (hb2.block g ?_).trans e3, rest⟩
          have := (World.ownsRow.lt hown2 g (by rw [e1]; rfl)).2
          exact this
      have hfz : w2.frozen? ⟨w.heap.size, k, none⟩ = false := World.ownsRow.frozenAt hO2 k
      obtain ⟨y, hold⟩ : ∃ y, w2.cell? ⟨w.heap.size, k, none⟩ = some y := by
        have := World.ownsRow.cellAt hO2 k (by omega)
        rw [List.getElem?_eq_getElem (by rw [HZ.out]; exact hlt)] at this
        exact ⟨_, this⟩
      have HO2 := Lib.hid hO2
      have HI2 := Lib.hid ho2.ints
      clear hO2 ho2 hown2
      go_wp2_with fail
      go_roundw
      case rel =>
        obtain ⟨h1, h2⟩ := World.ownsRow.stored HO2.out k (.slice (some ⟨wr.heap.size, 0, none⟩) xs.length xs.length)
        refine ⟨k + 1, by omega, by go_num, hbw.setCell (by simp) _, by simp; omega, _, by rw [List.length_set]; exact HZ.out, ?_, h1⟩
        intro j hj hj2
        by_cases e : j = k
        · subst e
          refine ⟨some ⟨wr.heap.size, 0, none⟩, xs.length, by rw [List.getElem?_set_self (by rw [HZ.out]; exact hlt), HX.out], ?_, fun ad h => by cases h; exact hlt2⟩
          rw [HX.out]
          exact Ints.setCell (by simpa using HI2.out) (fun ad h => by cases h; simp; omega)
        · obtain ⟨A1, c1, g1, g2, g3⟩ := HT.out j hj (by omega)
          refine ⟨A1, c1, by rw [List.getElem?_set_ne (Ne.symm e)]; exact g1, ?_, g3⟩
          have g4 : Ints w2.heap.size w2 A1 xss[j] := (g2.below hb2).more hz2
          exact Ints.setCell (by simpa using g4) (fun ad h => by have := g3 ad h; simp; omega)
      case measure => simp [intOf]; omega
    · obtain rfl : k = xss.length := by omega
      have HT := Lib.hid ht
      have HO := Lib.hid ho
      clear ho hz ht
      go_wp2
      go_ret
      refine ⟨rfl, fun _ => ⟨w.heap.size, 0, rfl, Nat.le_refl _, hlt2, fun k hk => ?_⟩, hb⟩
      obtain ⟨A', c', g1, g2, g3⟩ := HT.out k hk hk
      refine ⟨A', c', ?_, g2, fun ad ha => by have := g3 ad ha; omega⟩
      rw [Nat.zero_add, World.ownsRow.cellAt HO.out k (by omega)]
      exact g1
theorem toInt64SS_any (A : Option Addr) (c : Nat) (xss : List (List Int)) (B : Nat) (w : World) (hn : xss.length ≤ 1048576) (hl : ∀ xs ∈ xss, xs.length ≤ 1048576) (hI : Nest B w A xss) (hB : B ≤ w.heap.size) :
    Calls Tryz.prog 54 #[.slice A xss.length c] w fun e w' => e = .returned (.slice (some ⟨w.heap.size, 0, none⟩) xss.length xss.length) ∧ Nest w'.heap.size w' (some ⟨w.heap.size, 0, none⟩) xss ∧ Below w.heap.size w w' :=
  (toInt64SS_low A c xss B w hn hl hI hB).mono fun _ _ ⟨h1, h2, h3⟩ => ⟨h1, h2.nest, h3⟩
set_option maxRecDepth 100000 in
theorem eqInt64SS_yes (A A' : Option Addr) (c c' : Nat) (xss : List (List Int)) (B B' : Nat) (w : World) (hn : xss.length ≤ 1099511627776) (hl : ∀ xs ∈ xss, xs.length ≤ 1048576) (hI : Nest B w A xss) (hI' : Nest B' w A' xss) (hB : B ≤ w.heap.size) (hB' : B' ≤ w.heap.size) :
    Calls Tryz.prog 58 #[.slice A xss.length c, .slice A' xss.length c'] w fun e w' => e = .returned (.bool true) ∧ Below w.heap.size w w' := by
  have J := Lib.hid (hI.more hB)
  have J' := Lib.hid (hI'.more hB')
  have HL := Lib.hid hl
  clear hI hI' hl
  go_enter Tryz.func58, Tryz.ntmps58
  go_wp2
  go_loopw [5] (fun i wr => ∃ k : Nat, k ≤ xss.length ∧ i = .int .i64 k ∧ Below w.heap.size w wr) (fun i _ => xss.length - (intOf i).toNat)
  case atStart => exact ⟨0, Nat.zero_le _, rfl, Below.refl _ _⟩
  case round =>
    obtain ⟨k, hk, rfl, hb⟩ := hrel
    by_cases hlt : k < xss.length
    · obtain ⟨b, o, rfl, hab, A1, c1, d0, I1⟩ := (J.out.below hb).at_ hlt
      obtain ⟨b', o', rfl, hab', A2, c2, d1, I2⟩ := (J'.out.below hb).at_ hlt
      have hll := HL.out _ (List.getElem_mem hlt)
      generalize xss[k] = xs at *
      have HE := Lib.hid (fun L : Later wr => eqInt64S_yes A1 A2 c1 c2 xs _ _ L.world (by omega) ((I1.more hb.size).below L.below) ((I2.more hb.size).below L.below))
      have i0 : (0 : Int) ≤ (k : Int) := by omega
      have i1 : (k : Int) < xss.length := by omega
      have e0 := fun L : Later wr => L.cell d0
      have e1 := fun L : Later wr => L.cell d1
      clear d0 d1 I1 I2
      go_wp2
      refine wp_region_later (by kernel_rfl) (by kernel_rfl) ?_
      repeat (go_big_quiet_step ((go_at_call 15; first | (with_reducible exact later_b (HE.out _)) | (with_reducible exact later_d (HE.out _)) | (with_reducible exact later_s (HE.out _)))))
      refine wpQuiet_nil ?_
      intro _ hw'
      obtain ⟨LL, hw''⟩ := hw'
      subst hw''
      clear e0 e1
      have hb2 := hb.trans (LL.below.mono hb.size)
      go_wp2
      go_roundw
      case rel => exact ⟨k + 1, by omega, by go_num, hb2⟩
      case measure => simp [intOf]; omega
    · go_wp2
      go_ret
      exact ⟨rfl, hb⟩
end Go.Proofs.YtejkoicgbgoiaaaGreat

/- More shapes of arguments: a list of lists of numbers. No conditions. -/
namespace Go.Proofs.YtejkoicgbgoiaaaGreat
open Go.ChangeShapes Go.WideShapes Go.ChangeAt Go.RowKit Go.Joins Go.Deep
def FitsSS (xss : List (List Int)) : Prop := ∀ xs ∈ xss, Fits xs ∧ xs.length ≤ maxLen
section
variable {H : Type} {enc : TypeId × Value → H} {P : Program} {W : World}
theorem cell_spot {w : World} {a : Addr} {v : Value} (h : w.cell? a = some v) : a.spot = none := by
  unfold World.cell? at h
  split at h
  · split at h
    · cases h
    · rename_i hs; simpa using hs
  · cases h
theorem open_intss_at {t e q : TypeId} {r : Reach} {b0 : Nat} {v : Value} {d : DataW H} {ps : List MemPlace} (ht : P.underlying t = some (.slice e)) (he : P.underlying e = some (.slice q)) (hq : P.underlying q = some (.int .i64)) (ce : P.cellsOf e = 1) (cq : P.cellsOf q = 1)
    (hval : Value.okWide P W r b0 t v) (h : DataW.Trod enc P W 0 (fun _ => true) true t v d ps) (hlt : ∀ p ∈ ps, p.block < W.heap.size) :
    ∃ (A : Option Addr) (c : Nat) (xss : List (List Int)), v = .slice A xss.length c ∧ Nest W.heap.size W A xss ∧ FitsSS xss ∧ xss.length ≤ maxLen := by
  obtain ⟨a0, len, cap, rfl⟩ := okWide_slice ht hval
  obtain ⟨fuel, hf⟩ := h
  rcases open_int_rows ht he hq ce cq hf with ⟨hcs, _⟩ | ⟨a, len', cap', A, L, C, Z, hcs, _, hl, hm, hx, hr⟩
  · simp only [Value.cells, List.cons.injEq, Value.slice.injEq, and_true] at hcs
    obtain ⟨rfl, rfl, rfl⟩ := hcs
    exact ⟨none, 0, [], rfl, Nest.nil, by simp [FitsSS], by simp⟩
  · simp only [Value.cells, List.cons.injEq, Value.slice.injEq, and_true] at hcs
    obtain ⟨rfl, rfl, rfl⟩ := hcs
    have hps : ps = MemPlace.row a cap ++ (List.range cap).flatMap fun r => intRowPlaces (A r) (Z r) := congrArg Prod.snd hx
    have hrl : ∀ i, i < len → ((Z i).take (L i)).length = L i := fun i hi => by
      obtain ⟨_, h2, _, h4, _⟩ := hr i (by omega)
      rw [List.length_take]; omega
    let xss : List (List Int) := (List.range len).map fun i => (Z i).take (L i)
    have hxl : xss.length = len := by simp [xss]
    refine ⟨some a, cap, xss, by rw [hxl], ?_, ?_, by omega⟩
    · intro hpos
      rw [hxl] at hpos
      have hb : a.block < W.heap.size := by
        refine hlt (MemPlace.cell a.block a.off) ?_
        rw [hps]
        exact List.mem_append_left _ (row_head (by omega))
      have hs : a.spot = none := cell_spot (by have := (hr 0 (by omega)).1; rw [show a.add 0 = a by simp [Addr.add]] at this; exact this)
      have hrr := hr
      obtain ⟨b, o, s⟩ := a
      simp only at hs
      subst hs
      refine ⟨b, o, rfl, hb, fun k hk => ?_⟩
      rw [hxl] at hk
      obtain ⟨h1, h2, h3, h4, h5, h6, h7⟩ := hr k (by omega)
      have e : xss[k] = (Z k).take (L k) := by simp [xss]
      rw [e, hrl k hk]
      refine ⟨A k, C k, by rw [Addr.add_lit] at h1; exact h1, fun hp => ?_⟩
      rw [hrl k hk] at hp
      cases hA : A k with
      | none => have := h6 hA; omega
      | some a' =>
        obtain ⟨_, hc⟩ := h7 a' hA
        have hb' : a'.block < W.heap.size := by
          refine hlt (MemPlace.cell a'.block a'.off) ?_
          rw [hps]
          refine List.mem_append_right _ (List.mem_flatMap.2 ⟨k, List.mem_range.2 (by omega), ?_⟩)
          rw [hA]
          exact row_head (by omega)
        refine ⟨a', rfl, hb', fun j hj => ?_⟩
        rw [hrl k hk] at hj
        rw [hc j (by omega), List.getElem_take]
        simp [List.getD, show j < (Z k).length by omega]
    · intro xs hxs
      obtain ⟨i, hi, rfl⟩ := List.mem_map.1 hxs
      have hi := List.mem_range.1 hi
      obtain ⟨_, h2, h3, h4, h5, _⟩ := hr i (by omega)
      exact ⟨fun x hx => bounds_i64 (h5 x (List.mem_of_mem_take hx)), by rw [hrl i hi]; omega⟩
end
end Go.Proofs.YtejkoicgbgoiaaaGreat

/- Tasks that make dust: when one is valid, by the program and by the reference; and the walk of the law. Conditions: the facts on memory that each theorem names. -/
namespace Go.Proofs.YtejkoicgbgoiaaaGreat
open Go.RowKit
open Pl
end Go.Proofs.YtejkoicgbgoiaaaGreat
