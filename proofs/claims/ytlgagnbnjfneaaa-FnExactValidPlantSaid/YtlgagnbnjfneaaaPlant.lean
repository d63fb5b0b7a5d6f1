/- Plants: what one is in memory; the laws' own functions on them: a copy, a size, a comparison. Conditions: the lengths that each theorem names. Printed by gen_plant.py. -/
import Derived.Test.YtlgagnbnjfneaaaFans
import Derived.Test.YtlgagnbnjfneaaaDoors
import Derived.Test.YtlgagnbnjfneaaaMineW
namespace Go.Proofs.Ytlgagnbnjfneaaa
open Go.RowKit
open Pl
/-! ### Blocks from L on are kept -/
def Kept (L : Nat) (w w' : World) : Prop := w.heap.size ≤ w'.heap.size ∧ ∀ b, L ≤ b → b < w.heap.size → w'.heap[b]? = w.heap[b]?
theorem Kept.refl (L : Nat) (w : World) : Kept L w w := ⟨Nat.le_refl _, fun _ _ _ => rfl⟩
theorem Kept.trans {L : Nat} {a b c : World} (h : Kept L a b) (k : Kept L b c) : Kept L a c := ⟨Nat.le_trans h.1 k.1, fun i hi hl => (k.2 i hi (Nat.lt_of_lt_of_le hl h.1)).trans (h.2 i hi hl)⟩
theorem Kept.below {L : Nat} {a w w' : World} (h : Kept L a w) (hb : Below w.heap.size w w') : Kept L a w' := h.trans ⟨hb.size, fun b _ hl => hb.block b hl⟩
theorem Kept.setCell {L : Nat} {a w : World} (h : Kept L a w) {p : Addr} {v : Value} (hp : p.block < L) : Kept L a (w.setCell p v) := h.trans ⟨by simp [World.setCell], fun b hb _ => Below.heap_setCell _ _ _ _ (by omega)⟩
theorem own_kept {L base s n : Nat} {T : TypeId} {w w' : World} {v : Value} {xs : List Value} (h : w.ownsRow base T s v n xs) (hk : Kept L w w') (hL : L ≤ base) : w'.ownsRow base T s v n xs := by
  refine ⟨h.1, ?_⟩
  rcases h.2 with hn | ⟨g, cap, cur, e1, e2, e3, rest⟩
  · exact .inl hn
  · refine .inr ⟨g, cap, cur, e1, e2, (hk.2 g (by omega) ?_).trans e3, rest⟩
    exact (World.ownsRow.lt h g (by rw [e1]; rfl)).2
theorem NestL.kept {L : Nat} {w w' : World} {A : Option Addr} {xss : List (List Int)} (h : NestL L w.heap.size w A xss) (hk : Kept L w w') : NestL L w'.heap.size w' A xss := by
  intro hn
  obtain ⟨b, o, e, hl, hlt, hc⟩ := h hn
  refine ⟨b, o, e, hl, Nat.lt_of_lt_of_le hlt hk.1, fun k hkk => ?_⟩
  obtain ⟨A', c, h1, h2, h3⟩ := hc k hkk
  refine ⟨A', c, (World.cell?_of_block (a := ⟨b, o + k, none⟩) (hk.2 b hl hlt)).trans h1, fun hp => ?_, h3⟩
  obtain ⟨ad, ea, hal, hcc⟩ := h2 hp
  refine ⟨ad, ea, Nat.lt_of_lt_of_le hal hk.1, fun j hj => ?_⟩
  rw [World.cell?_of_block (w := w) (a := ad.add j) (by rw [block_add]; exact hk.2 ad.block (h3 ad ea) hal)]
  exact hcc j hj
theorem FnsL.kept {L : Nat} {w w' : World} {A : Option Addr} {xs : List Fa} (h : FnsL L w.heap.size w A xs) (hk : Kept L w w') : FnsL L w'.heap.size w' A xs := by
  intro hn
  obtain ⟨b, o, e, hl, hlt, hc⟩ := h hn
  have hcell : ∀ j, w'.cell? ⟨b, j, none⟩ = w.cell? ⟨b, j, none⟩ := fun j => World.cell?_of_block (a := ⟨b, j, none⟩) (hk.2 b hl hlt)
  refine ⟨b, o, e, hl, Nat.lt_of_lt_of_le hlt hk.1, fun k hkk => ?_⟩
  obtain ⟨h0, h1, A', c, h2, h3⟩ := hc k hkk
  exact ⟨(hcell _).trans h0, (hcell _).trans h1, A', c, (hcell _).trans h2, h3.kept hk⟩
/-! ### A box: its cells -/
def Bx (w : World) (g : Nat) (vs : List Value) : Prop := ∀ j, j < vs.length → w.cell? ⟨g, j, none⟩ = some (vs.getD j (.bool false)) ∧ w.frozen? ⟨g, j, none⟩ = false
theorem Bx.below {B g : Nat} {w w' : World} {vs : List Value} (h : Bx w g vs) (hb : Below B w w') (hg : g < B) : Bx w' g vs := fun j hj => ⟨(hb.cell (p := ⟨g, j, none⟩) hg).trans (h j hj).1, (hb.frozen (p := ⟨g, j, none⟩) hg).trans (h j hj).2⟩
theorem Bx.other {g : Nat} {w : World} {vs : List Value} (h : Bx w g vs) {p : Addr} (v : Value) (hp : p.block ≠ g) : Bx (w.setCell p v) g vs := fun j hj => ⟨(World.cell?_setCell_other _ _ _ _ (fun e => hp (by rw [e]))).trans (h j hj).1, by simpa using (h j hj).2⟩
theorem Bx.set {g : Nat} {w : World} {vs : List Value} (h : Bx w g vs) (i : Nat) (v : Value) (hi : i < vs.length) : Bx (w.setCell ⟨g, i, none⟩ v) g (vs.set i v) := fun j hj => by
  rw [List.length_set] at hj
  refine ⟨?_, by simpa using (h j hj).2⟩
  by_cases e : j = i
  · subst e
    rw [World.cell?_setCell_same _ _ _ (h j hj).1]
    simp [List.getD, hi]
  · rw [World.cell?_setCell_other _ _ _ _ (fun e' => e (by injection e' with _ h2; exact h2.symm)), (h j hj).1]
    simp [List.getD, List.getElem?_set_ne (Ne.symm e)]
/-! ### Plants -/
structure Pt where
  J : Int
  xs : List Aw
  ds : List Do
  ls : List (List Int)
  fs : List Fa
  dr : List Int
  tol : Int
/-- v is a plant that reads as p, all of it in blocks below B. -/
def PlantIs (B : Nat) (w : World) (v : Value) (p : Pt) : Prop :=
  ∃ A1 c1 A2 c2 A3 c3 A4 c4 A5 c5, v = .agg #[.int .i64 p.J, .slice A1 p.xs.length c1, .slice A2 p.ds.length c2, .slice A3 p.ls.length c3, .slice A4 p.fs.length c4, .slice A5 p.dr.length c5, .int .i64 p.tol] ∧ Recs encA 7 B w A1 p.xs ∧ Recs encDo 4 B w A2 p.ds ∧ Nest B w A3 p.ls ∧ Fns B w A4 p.fs ∧ Ints B w A5 p.dr
/-- The list of doors may be cut where it ends. -/
def CapOk (v : Value) : Prop := ∀ a b A2 n c2 d e f g, v = .agg #[a, b, .slice A2 n c2, d, e, f, g] → n ≤ c2
theorem PlantIs.later {w w' : World} {v : Value} {p : Pt} (h : PlantIs w.heap.size w v p) (hb : Below w.heap.size w w') : PlantIs w'.heap.size w' v p := by
  obtain ⟨A1, c1, A2, c2, A3, c3, A4, c4, A5, c5, e, h1, h2, h3, h4, h5⟩ := h
  exact ⟨A1, c1, A2, c2, A3, c3, A4, c4, A5, c5, e, (h1.below hb).more hb.size, (h2.below hb).more hb.size, h3.later hb, h4.later hb, (h5.below hb).more hb.size⟩
theorem bx7 {w : World} {g : Nat} {v0 v1 v2 v3 v4 v5 v6 : Value} (h : Bx w g [v0, v1, v2, v3, v4, v5, v6]) : (w.cell? ⟨g, 0, none⟩ = some v0 ∧ w.cell? ⟨g, 1, none⟩ = some v1 ∧ w.cell? ⟨g, 2, none⟩ = some v2 ∧ w.cell? ⟨g, 3, none⟩ = some v3 ∧ w.cell? ⟨g, 4, none⟩ = some v4 ∧ w.cell? ⟨g, 5, none⟩ = some v5 ∧ w.cell? ⟨g, 6, none⟩ = some v6) ∧ (w.frozen? ⟨g, 0, none⟩ = false ∧ w.frozen? ⟨g, 1, none⟩ = false ∧ w.frozen? ⟨g, 2, none⟩ = false ∧ w.frozen? ⟨g, 3, none⟩ = false ∧ w.frozen? ⟨g, 4, none⟩ = false ∧ w.frozen? ⟨g, 5, none⟩ = false ∧ w.frozen? ⟨g, 6, none⟩ = false) :=
  ⟨⟨(h 0 (by simp)).1, (h 1 (by simp)).1, (h 2 (by simp)).1, (h 3 (by simp)).1, (h 4 (by simp)).1, (h 5 (by simp)).1, (h 6 (by simp)).1⟩, (h 0 (by simp)).2, (h 1 (by simp)).2, (h 2 (by simp)).2, (h 3 (by simp)).2, (h 4 (by simp)).2, (h 5 (by simp)).2, (h 6 (by simp)).2⟩
theorem bx7_of {w : World} {g : Nat} {v0 v1 v2 v3 v4 v5 v6 : Value} (h0 : w.cell? ⟨g, 0, none⟩ = some v0) (h1 : w.cell? ⟨g, 1, none⟩ = some v1) (h2 : w.cell? ⟨g, 2, none⟩ = some v2) (h3 : w.cell? ⟨g, 3, none⟩ = some v3) (h4 : w.cell? ⟨g, 4, none⟩ = some v4) (h5 : w.cell? ⟨g, 5, none⟩ = some v5) (h6 : w.cell? ⟨g, 6, none⟩ = some v6) (hf : ∀ j, w.frozen? ⟨g, j, none⟩ = false) : Bx w g [v0, v1, v2, v3, v4, v5, v6] := fun j hj =>
  match j, hj with
  | 0, _ => ⟨h0, hf 0⟩
  | 1, _ => ⟨h1, hf 1⟩
  | 2, _ => ⟨h2, hf 2⟩
  | 3, _ => ⟨h3, hf 3⟩
  | 4, _ => ⟨h4, hf 4⟩
  | 5, _ => ⟨h5, hf 5⟩
  | 6, _ => ⟨h6, hf 6⟩
/-- The lengths that a law's test bounds. -/
def PtLen (p : Pt) : Prop := p.xs.length ≤ 1048576 ∧ p.ds.length ≤ 1048576 ∧ p.ls.length ≤ 1048576 ∧ (∀ l ∈ p.ls, l.length ≤ 1048576) ∧ p.fs.length ≤ 1048576 ∧ FansLen p.fs ∧ p.dr.length ≤ 1048576
set_option maxRecDepth 100000 in
set_option maxHeartbeats 3200000 in
theorem toPlant_any (v : Value) (p : Pt) (w : World) (hl : PtLen p) (hI : PlantIs w.heap.size w v p) :
    Calls Try.prog 35 #[v] w fun e w' => ∃ v', e = .returned v' ∧ PlantIs w'.heap.size w' v' p ∧ CapOk v' ∧ Below w.heap.size w w' := by
  obtain ⟨J, xs, ds, ls, fs, dr, tol⟩ := p
  obtain ⟨A1, k1, A2, k2, A3, k3, A4, k4, A5, k5, rfl, i1, i2, i3, i4, i5⟩ := hI
  obtain ⟨l1, l2, l3, l3', l4, l4', l5⟩ := hl
  dsimp only at *
  have be0 : Below w.heap.size w (((w.alloc (.cells #[.int .i64 J, .slice A1 xs.length k1, .slice A2 ds.length k2, .slice A3 ls.length k3, .slice A4 fs.length k4, .slice A5 dr.length k5, .int .i64 tol] 56)).alloc (.cells #[.int .i64 0, .slice none 0 0, .slice none 0 0, .slice none 0 0, .slice none 0 0, .slice none 0 0, .int .i64 0] 62)).alloc (.cells #[.int .i64 0, .slice none 0 0, .slice none 0 0, .slice none 0 0, .slice none 0 0, .slice none 0 0, .int .i64 0] 62)) := by go_grown
  have HP0 : Bx (((w.alloc (.cells #[.int .i64 J, .slice A1 xs.length k1, .slice A2 ds.length k2, .slice A3 ls.length k3, .slice A4 fs.length k4, .slice A5 dr.length k5, .int .i64 tol] 56)).alloc (.cells #[.int .i64 0, .slice none 0 0, .slice none 0 0, .slice none 0 0, .slice none 0 0, .slice none 0 0, .int .i64 0] 62)).alloc (.cells #[.int .i64 0, .slice none 0 0, .slice none 0 0, .slice none 0 0, .slice none 0 0, .slice none 0 0, .int .i64 0] 62)) w.heap.size [.int .i64 J, .slice A1 xs.length k1, .slice A2 ds.length k2, .slice A3 ls.length k3, .slice A4 fs.length k4, .slice A5 dr.length k5, .int .i64 tol] := bx7_of (by go_simp) (by go_simp) (by go_simp) (by go_simp) (by go_simp) (by go_simp) (by go_simp) (fun j => by go_simp)
  have HZ0 : Bx (((w.alloc (.cells #[.int .i64 J, .slice A1 xs.length k1, .slice A2 ds.length k2, .slice A3 ls.length k3, .slice A4 fs.length k4, .slice A5 dr.length k5, .int .i64 tol] 56)).alloc (.cells #[.int .i64 0, .slice none 0 0, .slice none 0 0, .slice none 0 0, .slice none 0 0, .slice none 0 0, .int .i64 0] 62)).alloc (.cells #[.int .i64 0, .slice none 0 0, .slice none 0 0, .slice none 0 0, .slice none 0 0, .slice none 0 0, .int .i64 0] 62)) (w.heap.size + 1) [.int .i64 0, .slice none 0 0, .slice none 0 0, .slice none 0 0, .slice none 0 0, .slice none 0 0, .int .i64 0] := bx7_of (by go_simp) (by go_simp) (by go_simp) (by go_simp) (by go_simp) (by go_simp) (by go_simp) (fun j => by go_simp)
  have HO0 : Bx (((w.alloc (.cells #[.int .i64 J, .slice A1 xs.length k1, .slice A2 ds.length k2, .slice A3 ls.length k3, .slice A4 fs.length k4, .slice A5 dr.length k5, .int .i64 tol] 56)).alloc (.cells #[.int .i64 0, .slice none 0 0, .slice none 0 0, .slice none 0 0, .slice none 0 0, .slice none 0 0, .int .i64 0] 62)).alloc (.cells #[.int .i64 0, .slice none 0 0, .slice none 0 0, .slice none 0 0, .slice none 0 0, .slice none 0 0, .int .i64 0] 62)) (w.heap.size + 1 + 1) [.int .i64 0, .slice none 0 0, .slice none 0 0, .slice none 0 0, .slice none 0 0, .slice none 0 0, .int .i64 0] := bx7_of (by go_simp) (by go_simp) (by go_simp) (by go_simp) (by go_simp) (by go_simp) (by go_simp) (fun j => by go_simp)
  have hs0 : ((((w.alloc (.cells #[.int .i64 J, .slice A1 xs.length k1, .slice A2 ds.length k2, .slice A3 ls.length k3, .slice A4 fs.length k4, .slice A5 dr.length k5, .int .i64 tol] 56)).alloc (.cells #[.int .i64 0, .slice none 0 0, .slice none 0 0, .slice none 0 0, .slice none 0 0, .slice none 0 0, .int .i64 0] 62)).alloc (.cells #[.int .i64 0, .slice none 0 0, .slice none 0 0, .slice none 0 0, .slice none 0 0, .slice none 0 0, .int .i64 0] 62))).heap.size = w.heap.size + 1 + 1 + 1 := by simp
  have C1 := Lib.hid (fun W (hb : Below w.heap.size w W) => toMine_any J A1 k1 xs w.heap.size W l1 (i1.below hb) hb.size)
  have C2 := Lib.hid (fun W (hb : Below w.heap.size w W) => toDoorS_any A2 k2 ds w.heap.size W l2 (i2.below hb) hb.size)
  have C3 := Lib.hid (fun W (hb : Below w.heap.size w W) => toInt64SS_low A3 k3 ls w.heap.size W l3 l3' (i3.below hb) hb.size)
  have C4 := Lib.hid (fun W (hb : Below w.heap.size w W) => toFanS_low A4 k4 fs w.heap.size W l4 l4' (i4.below hb) hb.size)
  have C5 := Lib.hid (fun W (hb : Below w.heap.size w W) => toInt64S_any A5 k5 dr w.heap.size W l5 (i5.below hb) hb.size)
  clear i1 i2 i3 i4 i5 l1 l2 l3 l3' l4 l4' l5
  have HP0 := Lib.hid HP0
  have HZ0 := Lib.hid HZ0
  have HO0 := Lib.hid HO0
  go_enter Try.func35, Try.ntmps35
  go_wp2_with fail
  generalize (((w.alloc (.cells #[.int .i64 J, .slice A1 xs.length k1, .slice A2 ds.length k2, .slice A3 ls.length k3, .slice A4 fs.length k4, .slice A5 dr.length k5, .int .i64 tol] 56)).alloc (.cells #[.int .i64 0, .slice none 0 0, .slice none 0 0, .slice none 0 0, .slice none 0 0, .slice none 0 0, .int .i64 0] 62)).alloc (.cells #[.int .i64 0, .slice none 0 0, .slice none 0 0, .slice none 0 0, .slice none 0 0, .slice none 0 0, .int .i64 0] 62)) = W0 at *
  have szg : (w.heap.size + 1 + 1) < W0.heap.size := by omega
  refine (C1.out _ be0).mono ?_
  rintro e w1 ⟨v1, rfl, o1, hb1⟩
  obtain ⟨B1, m1, rfl, -, -⟩ := o1.slice encA_len
  have hz1 := hb1.size
  have bw1 : Below w.heap.size w w1 := be0.trans (hb1.mono be0.size)
  have hp := HP0.out.below hb1 (by omega)
  have ho := HO0.out.below hb1 (by omega)
  have hz := HZ0.out.below hb1 (by omega)
  obtain ⟨⟨p0, p1, p2, p3, p4, p5, p6⟩, ⟨pf0, pf1, pf2, pf3, pf4, pf5, pf6⟩⟩ := bx7 hp
  obtain ⟨⟨q0, q1, q2, q3, q4, q5, q6⟩, ⟨qf0, qf1, qf2, qf3, qf4, qf5, qf6⟩⟩ := bx7 ho
  have HO1 : Hid (Bx ((w1.setCell ⟨w.heap.size + 1 + 1, 0, none⟩ (.int .i64 J)).setCell ⟨w.heap.size + 1 + 1, 1, none⟩ (.slice B1 xs.length m1)) (w.heap.size + 1 + 1) [.int .i64 J, .slice B1 xs.length m1, .slice none 0 0, .slice none 0 0, .slice none 0 0, .slice none 0 0, .int .i64 0]) := Lib.hid ((ho.set 0 (.int .i64 J) (by simp)).set 1 (.slice B1 xs.length m1) (by simp))
  have HP1 : Hid (Bx ((w1.setCell ⟨w.heap.size + 1 + 1, 0, none⟩ (.int .i64 J)).setCell ⟨w.heap.size + 1 + 1, 1, none⟩ (.slice B1 xs.length m1)) w.heap.size [.int .i64 J, .slice A1 xs.length k1, .slice A2 ds.length k2, .slice A3 ls.length k3, .slice A4 fs.length k4, .slice A5 dr.length k5, .int .i64 tol]) := Lib.hid ((hp.other (p := ⟨(w.heap.size + 1 + 1), 0, none⟩) (.int .i64 J) (by simp <;> omega)).other (p := ⟨(w.heap.size + 1 + 1), 1, none⟩) (.slice B1 xs.length m1) (by simp <;> omega))
  have HZ1 : Hid (Bx ((w1.setCell ⟨w.heap.size + 1 + 1, 0, none⟩ (.int .i64 J)).setCell ⟨w.heap.size + 1 + 1, 1, none⟩ (.slice B1 xs.length m1)) (w.heap.size + 1) [.int .i64 0, .slice none 0 0, .slice none 0 0, .slice none 0 0, .slice none 0 0, .slice none 0 0, .int .i64 0]) := Lib.hid ((hz.other (p := ⟨(w.heap.size + 1 + 1), 0, none⟩) (.int .i64 J) (by simp)).other (p := ⟨(w.heap.size + 1 + 1), 1, none⟩) (.slice B1 xs.length m1) (by simp))
  have be1 : Below w.heap.size w ((w1.setCell ⟨w.heap.size + 1 + 1, 0, none⟩ (.int .i64 J)).setCell ⟨w.heap.size + 1 + 1, 1, none⟩ (.slice B1 xs.length m1)) := ((bw1.setCell (p := ⟨(w.heap.size + 1 + 1), 0, none⟩) (by simp <;> omega) (.int .i64 J)).setCell (p := ⟨(w.heap.size + 1 + 1), 1, none⟩) (by simp <;> omega) (.slice B1 xs.length m1))
  have hk1 : Kept ((w.heap.size + 1 + 1) + 1) w1 ((w1.setCell ⟨w.heap.size + 1 + 1, 0, none⟩ (.int .i64 J)).setCell ⟨w.heap.size + 1 + 1, 1, none⟩ (.slice B1 xs.length m1)) := Kept.setCell ((Kept.refl _ _).setCell (p := ⟨(w.heap.size + 1 + 1), 0, none⟩) (by simp)) (p := ⟨(w.heap.size + 1 + 1), 1, none⟩) (by simp)
  have hsz1 : (((w1.setCell ⟨w.heap.size + 1 + 1, 0, none⟩ (.int .i64 J)).setCell ⟨w.heap.size + 1 + 1, 1, none⟩ (.slice B1 xs.length m1))).heap.size = w1.heap.size := by simp
  have szg1 : (w.heap.size + 1 + 1) < (((w1.setCell ⟨w.heap.size + 1 + 1, 0, none⟩ (.int .i64 J)).setCell ⟨w.heap.size + 1 + 1, 1, none⟩ (.slice B1 xs.length m1))).heap.size := by omega
  have HSZ1 := Lib.hid hsz1
  clear hsz1
  have HK1 := Lib.hid hk1
  have HW1 := Lib.hid o1
  clear hp ho hz hk1 o1 HP0 HO0 HZ0
  go_wp2_with fail
  generalize ((w1.setCell ⟨w.heap.size + 1 + 1, 0, none⟩ (.int .i64 J)).setCell ⟨w.heap.size + 1 + 1, 1, none⟩ (.slice B1 xs.length m1)) = W1 at *
  clear p0 pf0 q0 qf0 p1 pf1 q1 qf1 p2 pf2 q2 qf2 p3 pf3 q3 qf3 p4 pf4 q4 qf4 p5 pf5 q5 qf5 p6 pf6 q6 qf6
  refine (C2.out _ be1).mono ?_
  rintro e w2 ⟨rfl, o2, hb2⟩
  have hz2 := hb2.size
  have bw2 : Below w.heap.size w w2 := be1.trans (hb2.mono be1.size)
  have hp := HP1.out.below hb2 (by omega)
  have ho := HO1.out.below hb2 (by omega)
  have hz := HZ1.out.below hb2 (by omega)
  obtain ⟨⟨p0, p1, p2, p3, p4, p5, p6⟩, ⟨pf0, pf1, pf2, pf3, pf4, pf5, pf6⟩⟩ := bx7 hp
  obtain ⟨⟨q0, q1, q2, q3, q4, q5, q6⟩, ⟨qf0, qf1, qf2, qf3, qf4, qf5, qf6⟩⟩ := bx7 ho
  have HO2 : Hid (Bx (w2.setCell ⟨w.heap.size + 1 + 1, 2, none⟩ (.slice (some ⟨W1.heap.size, 0, none⟩) ds.length ds.length)) (w.heap.size + 1 + 1) [.int .i64 J, .slice B1 xs.length m1, .slice (some ⟨W1.heap.size, 0, none⟩) ds.length ds.length, .slice none 0 0, .slice none 0 0, .slice none 0 0, .int .i64 0]) := Lib.hid (ho.set 2 (.slice (some ⟨W1.heap.size, 0, none⟩) ds.length ds.length) (by simp))
  have HP2 : Hid (Bx (w2.setCell ⟨w.heap.size + 1 + 1, 2, none⟩ (.slice (some ⟨W1.heap.size, 0, none⟩) ds.length ds.length)) w.heap.size [.int .i64 J, .slice A1 xs.length k1, .slice A2 ds.length k2, .slice A3 ls.length k3, .slice A4 fs.length k4, .slice A5 dr.length k5, .int .i64 tol]) := Lib.hid (hp.other (p := ⟨(w.heap.size + 1 + 1), 2, none⟩) (.slice (some ⟨W1.heap.size, 0, none⟩) ds.length ds.length) (by simp <;> omega))
  have HZ2 : Hid (Bx (w2.setCell ⟨w.heap.size + 1 + 1, 2, none⟩ (.slice (some ⟨W1.heap.size, 0, none⟩) ds.length ds.length)) (w.heap.size + 1) [.int .i64 0, .slice none 0 0, .slice none 0 0, .slice none 0 0, .slice none 0 0, .slice none 0 0, .int .i64 0]) := Lib.hid (hz.other (p := ⟨(w.heap.size + 1 + 1), 2, none⟩) (.slice (some ⟨W1.heap.size, 0, none⟩) ds.length ds.length) (by simp))
  have be2 : Below w.heap.size w (w2.setCell ⟨w.heap.size + 1 + 1, 2, none⟩ (.slice (some ⟨W1.heap.size, 0, none⟩) ds.length ds.length)) := (bw2.setCell (p := ⟨(w.heap.size + 1 + 1), 2, none⟩) (by simp <;> omega) (.slice (some ⟨W1.heap.size, 0, none⟩) ds.length ds.length))
  have hk2 : Kept ((w.heap.size + 1 + 1) + 1) w2 (w2.setCell ⟨w.heap.size + 1 + 1, 2, none⟩ (.slice (some ⟨W1.heap.size, 0, none⟩) ds.length ds.length)) := (Kept.refl _ _).setCell (p := ⟨(w.heap.size + 1 + 1), 2, none⟩) (by simp)
  have hsz2 : ((w2.setCell ⟨w.heap.size + 1 + 1, 2, none⟩ (.slice (some ⟨W1.heap.size, 0, none⟩) ds.length ds.length))).heap.size = w2.heap.size := by simp
  have szg2 : (w.heap.size + 1 + 1) < ((w2.setCell ⟨w.heap.size + 1 + 1, 2, none⟩ (.slice (some ⟨W1.heap.size, 0, none⟩) ds.length ds.length))).heap.size := by omega
  have HSZ2 := Lib.hid hsz2
  clear hsz2
  have HK2 := Lib.hid hk2
  have HW2 := Lib.hid o2
  clear hp ho hz hk2 o2 HP1 HO1 HZ1
  go_wp2_with fail
  generalize (w2.setCell ⟨w.heap.size + 1 + 1, 2, none⟩ (.slice (some ⟨W1.heap.size, 0, none⟩) ds.length ds.length)) = W2 at *
  clear p0 pf0 q0 qf0 p1 pf1 q1 qf1 p2 pf2 q2 qf2 p3 pf3 q3 qf3 p4 pf4 q4 qf4 p5 pf5 q5 qf5 p6 pf6 q6 qf6
  refine (C3.out _ be2).mono ?_
  rintro e w3 ⟨rfl, o3, hb3⟩
  have hz3 := hb3.size
  have bw3 : Below w.heap.size w w3 := be2.trans (hb3.mono be2.size)
  have hp := HP2.out.below hb3 (by omega)
  have ho := HO2.out.below hb3 (by omega)
  have hz := HZ2.out.below hb3 (by omega)
  obtain ⟨⟨p0, p1, p2, p3, p4, p5, p6⟩, ⟨pf0, pf1, pf2, pf3, pf4, pf5, pf6⟩⟩ := bx7 hp
  obtain ⟨⟨q0, q1, q2, q3, q4, q5, q6⟩, ⟨qf0, qf1, qf2, qf3, qf4, qf5, qf6⟩⟩ := bx7 ho
  have HO3 : Hid (Bx (w3.setCell ⟨w.heap.size + 1 + 1, 3, none⟩ (.slice (some ⟨W2.heap.size, 0, none⟩) ls.length ls.length)) (w.heap.size + 1 + 1) [.int .i64 J, .slice B1 xs.length m1, .slice (some ⟨W1.heap.size, 0, none⟩) ds.length ds.length, .slice (some ⟨W2.heap.size, 0, none⟩) ls.length ls.length, .slice none 0 0, .slice none 0 0, .int .i64 0]) := Lib.hid (ho.set 3 (.slice (some ⟨W2.heap.size, 0, none⟩) ls.length ls.length) (by simp))
  have HP3 : Hid (Bx (w3.setCell ⟨w.heap.size + 1 + 1, 3, none⟩ (.slice (some ⟨W2.heap.size, 0, none⟩) ls.length ls.length)) w.heap.size [.int .i64 J, .slice A1 xs.length k1, .slice A2 ds.length k2, .slice A3 ls.length k3, .slice A4 fs.length k4, .slice A5 dr.length k5, .int .i64 tol]) := Lib.hid (hp.other (p := ⟨(w.heap.size + 1 + 1), 3, none⟩) (.slice (some ⟨W2.heap.size, 0, none⟩) ls.length ls.length) (by simp <;> omega))
  have HZ3 : Hid (Bx (w3.setCell ⟨w.heap.size + 1 + 1, 3, none⟩ (.slice (some ⟨W2.heap.size, 0, none⟩) ls.length ls.length)) (w.heap.size + 1) [.int .i64 0, .slice none 0 0, .slice none 0 0, .slice none 0 0, .slice none 0 0, .slice none 0 0, .int .i64 0]) := Lib.hid (hz.other (p := ⟨(w.heap.size + 1 + 1), 3, none⟩) (.slice (some ⟨W2.heap.size, 0, none⟩) ls.length ls.length) (by simp))
  have be3 : Below w.heap.size w (w3.setCell ⟨w.heap.size + 1 + 1, 3, none⟩ (.slice (some ⟨W2.heap.size, 0, none⟩) ls.length ls.length)) := (bw3.setCell (p := ⟨(w.heap.size + 1 + 1), 3, none⟩) (by simp <;> omega) (.slice (some ⟨W2.heap.size, 0, none⟩) ls.length ls.length))
  have hk3 : Kept ((w.heap.size + 1 + 1) + 1) w3 (w3.setCell ⟨w.heap.size + 1 + 1, 3, none⟩ (.slice (some ⟨W2.heap.size, 0, none⟩) ls.length ls.length)) := (Kept.refl _ _).setCell (p := ⟨(w.heap.size + 1 + 1), 3, none⟩) (by simp)
  have hsz3 : ((w3.setCell ⟨w.heap.size + 1 + 1, 3, none⟩ (.slice (some ⟨W2.heap.size, 0, none⟩) ls.length ls.length))).heap.size = w3.heap.size := by simp
  have szg3 : (w.heap.size + 1 + 1) < ((w3.setCell ⟨w.heap.size + 1 + 1, 3, none⟩ (.slice (some ⟨W2.heap.size, 0, none⟩) ls.length ls.length))).heap.size := by omega
  have HSZ3 := Lib.hid hsz3
  clear hsz3
  have HK3 := Lib.hid hk3
  have HW3 := Lib.hid o3
  clear hp ho hz hk3 o3 HP2 HO2 HZ2
  go_wp2_with fail
  generalize (w3.setCell ⟨w.heap.size + 1 + 1, 3, none⟩ (.slice (some ⟨W2.heap.size, 0, none⟩) ls.length ls.length)) = W3 at *
  clear p0 pf0 q0 qf0 p1 pf1 q1 qf1 p2 pf2 q2 qf2 p3 pf3 q3 qf3 p4 pf4 q4 qf4 p5 pf5 q5 qf5 p6 pf6 q6 qf6
  refine (C4.out _ be3).mono ?_
  rintro e w4 ⟨rfl, o4, hb4⟩
  have hz4 := hb4.size
  have bw4 : Below w.heap.size w w4 := be3.trans (hb4.mono be3.size)
  have hp := HP3.out.below hb4 (by omega)
  have ho := HO3.out.below hb4 (by omega)
  have hz := HZ3.out.below hb4 (by omega)
  obtain ⟨⟨p0, p1, p2, p3, p4, p5, p6⟩, ⟨pf0, pf1, pf2, pf3, pf4, pf5, pf6⟩⟩ := bx7 hp
  obtain ⟨⟨q0, q1, q2, q3, q4, q5, q6⟩, ⟨qf0, qf1, qf2, qf3, qf4, qf5, qf6⟩⟩ := bx7 ho
  have HO4 : Hid (Bx (w4.setCell ⟨w.heap.size + 1 + 1, 4, none⟩ (.slice (some ⟨W3.heap.size, 0, none⟩) fs.length fs.length)) (w.heap.size + 1 + 1) [.int .i64 J, .slice B1 xs.length m1, .slice (some ⟨W1.heap.size, 0, none⟩) ds.length ds.length, .slice (some ⟨W2.heap.size, 0, none⟩) ls.length ls.length, .slice (some ⟨W3.heap.size, 0, none⟩) fs.length fs.length, .slice none 0 0, .int .i64 0]) := Lib.hid (ho.set 4 (.slice (some ⟨W3.heap.size, 0, none⟩) fs.length fs.length) (by simp))
  have HP4 : Hid (Bx (w4.setCell ⟨w.heap.size + 1 + 1, 4, none⟩ (.slice (some ⟨W3.heap.size, 0, none⟩) fs.length fs.length)) w.heap.size [.int .i64 J, .slice A1 xs.length k1, .slice A2 ds.length k2, .slice A3 ls.length k3, .slice A4 fs.length k4, .slice A5 dr.length k5, .int .i64 tol]) := Lib.hid (hp.other (p := ⟨(w.heap.size + 1 + 1), 4, none⟩) (.slice (some ⟨W3.heap.size, 0, none⟩) fs.length fs.length) (by simp <;> omega))
  have HZ4 : Hid (Bx (w4.setCell ⟨w.heap.size + 1 + 1, 4, none⟩ (.slice (some ⟨W3.heap.size, 0, none⟩) fs.length fs.length)) (w.heap.size + 1) [.int .i64 0, .slice none 0 0, .slice none 0 0, .slice none 0 0, .slice none 0 0, .slice none 0 0, .int .i64 0]) := Lib.hid (hz.other (p := ⟨(w.heap.size + 1 + 1), 4, none⟩) (.slice (some ⟨W3.heap.size, 0, none⟩) fs.length fs.length) (by simp))
  have be4 : Below w.heap.size w (w4.setCell ⟨w.heap.size + 1 + 1, 4, none⟩ (.slice (some ⟨W3.heap.size, 0, none⟩) fs.length fs.length)) := (bw4.setCell (p := ⟨(w.heap.size + 1 + 1), 4, none⟩) (by simp <;> omega) (.slice (some ⟨W3.heap.size, 0, none⟩) fs.length fs.length))
  have hk4 : Kept ((w.heap.size + 1 + 1) + 1) w4 (w4.setCell ⟨w.heap.size + 1 + 1, 4, none⟩ (.slice (some ⟨W3.heap.size, 0, none⟩) fs.length fs.length)) := (Kept.refl _ _).setCell (p := ⟨(w.heap.size + 1 + 1), 4, none⟩) (by simp)
  have hsz4 : ((w4.setCell ⟨w.heap.size + 1 + 1, 4, none⟩ (.slice (some ⟨W3.heap.size, 0, none⟩) fs.length fs.length))).heap.size = w4.heap.size := by simp
  have szg4 : (w.heap.size + 1 + 1) < ((w4.setCell ⟨w.heap.size + 1 + 1, 4, none⟩ (.slice (some ⟨W3.heap.size, 0, none⟩) fs.length fs.length))).heap.size := by omega
  have HSZ4 := Lib.hid hsz4
  clear hsz4
  have HK4 := Lib.hid hk4
  have HW4 := Lib.hid o4
  clear hp ho hz hk4 o4 HP3 HO3 HZ3
  go_wp2_with fail
  generalize (w4.setCell ⟨w.heap.size + 1 + 1, 4, none⟩ (.slice (some ⟨W3.heap.size, 0, none⟩) fs.length fs.length)) = W4 at *
  clear p0 pf0 q0 qf0 p1 pf1 q1 qf1 p2 pf2 q2 qf2 p3 pf3 q3 qf3 p4 pf4 q4 qf4 p5 pf5 q5 qf5 p6 pf6 q6 qf6
  refine (C5.out _ be4).mono ?_
  rintro e w5 ⟨rfl, o5, hb5⟩
  have hz5 := hb5.size
  have bw5 : Below w.heap.size w w5 := be4.trans (hb5.mono be4.size)
  have hp := HP4.out.below hb5 (by omega)
  have ho := HO4.out.below hb5 (by omega)
  have hz := HZ4.out.below hb5 (by omega)
  obtain ⟨⟨p0, p1, p2, p3, p4, p5, p6⟩, ⟨pf0, pf1, pf2, pf3, pf4, pf5, pf6⟩⟩ := bx7 hp
  obtain ⟨⟨q0, q1, q2, q3, q4, q5, q6⟩, ⟨qf0, qf1, qf2, qf3, qf4, qf5, qf6⟩⟩ := bx7 ho
  have HO5 : Hid (Bx ((w5.setCell ⟨w.heap.size + 1 + 1, 5, none⟩ (.slice (some ⟨W4.heap.size, 0, none⟩) dr.length dr.length)).setCell ⟨w.heap.size + 1 + 1, 6, none⟩ (.int .i64 tol)) (w.heap.size + 1 + 1) [.int .i64 J, .slice B1 xs.length m1, .slice (some ⟨W1.heap.size, 0, none⟩) ds.length ds.length, .slice (some ⟨W2.heap.size, 0, none⟩) ls.length ls.length, .slice (some ⟨W3.heap.size, 0, none⟩) fs.length fs.length, .slice (some ⟨W4.heap.size, 0, none⟩) dr.length dr.length, .int .i64 tol]) := Lib.hid ((ho.set 5 (.slice (some ⟨W4.heap.size, 0, none⟩) dr.length dr.length) (by simp)).set 6 (.int .i64 tol) (by simp))
  have HP5 : Hid (Bx ((w5.setCell ⟨w.heap.size + 1 + 1, 5, none⟩ (.slice (some ⟨W4.heap.size, 0, none⟩) dr.length dr.length)).setCell ⟨w.heap.size + 1 + 1, 6, none⟩ (.int .i64 tol)) w.heap.size [.int .i64 J, .slice A1 xs.length k1, .slice A2 ds.length k2, .slice A3 ls.length k3, .slice A4 fs.length k4, .slice A5 dr.length k5, .int .i64 tol]) := Lib.hid ((hp.other (p := ⟨(w.heap.size + 1 + 1), 5, none⟩) (.slice (some ⟨W4.heap.size, 0, none⟩) dr.length dr.length) (by simp <;> omega)).other (p := ⟨(w.heap.size + 1 + 1), 6, none⟩) (.int .i64 tol) (by simp <;> omega))
  have HZ5 : Hid (Bx ((w5.setCell ⟨w.heap.size + 1 + 1, 5, none⟩ (.slice (some ⟨W4.heap.size, 0, none⟩) dr.length dr.length)).setCell ⟨w.heap.size + 1 + 1, 6, none⟩ (.int .i64 tol)) (w.heap.size + 1) [.int .i64 0, .slice none 0 0, .slice none 0 0, .slice none 0 0, .slice none 0 0, .slice none 0 0, .int .i64 0]) := Lib.hid ((hz.other (p := ⟨(w.heap.size + 1 + 1), 5, none⟩) (.slice (some ⟨W4.heap.size, 0, none⟩) dr.length dr.length) (by simp)).other (p := ⟨(w.heap.size + 1 + 1), 6, none⟩) (.int .i64 tol) (by simp))
  have be5 : Below w.heap.size w ((w5.setCell ⟨w.heap.size + 1 + 1, 5, none⟩ (.slice (some ⟨W4.heap.size, 0, none⟩) dr.length dr.length)).setCell ⟨w.heap.size + 1 + 1, 6, none⟩ (.int .i64 tol)) := ((bw5.setCell (p := ⟨(w.heap.size + 1 + 1), 5, none⟩) (by simp <;> omega) (.slice (some ⟨W4.heap.size, 0, none⟩) dr.length dr.length)).setCell (p := ⟨(w.heap.size + 1 + 1), 6, none⟩) (by simp <;> omega) (.int .i64 tol))
  have hk5 : Kept ((w.heap.size + 1 + 1) + 1) w5 ((w5.setCell ⟨w.heap.size + 1 + 1, 5, none⟩ (.slice (some ⟨W4.heap.size, 0, none⟩) dr.length dr.length)).setCell ⟨w.heap.size + 1 + 1, 6, none⟩ (.int .i64 tol)) := Kept.setCell ((Kept.refl _ _).setCell (p := ⟨(w.heap.size + 1 + 1), 5, none⟩) (by simp)) (p := ⟨(w.heap.size + 1 + 1), 6, none⟩) (by simp)
  have hsz5 : (((w5.setCell ⟨w.heap.size + 1 + 1, 5, none⟩ (.slice (some ⟨W4.heap.size, 0, none⟩) dr.length dr.length)).setCell ⟨w.heap.size + 1 + 1, 6, none⟩ (.int .i64 tol))).heap.size = w5.heap.size := by simp
  have szg5 : (w.heap.size + 1 + 1) < (((w5.setCell ⟨w.heap.size + 1 + 1, 5, none⟩ (.slice (some ⟨W4.heap.size, 0, none⟩) dr.length dr.length)).setCell ⟨w.heap.size + 1 + 1, 6, none⟩ (.int .i64 tol))).heap.size := by omega
  have HSZ5 := Lib.hid hsz5
  clear hsz5
  have HK5 := Lib.hid hk5
  have HW5 := Lib.hid o5
  obtain ⟨⟨z0, z1, z2, z3, z4, z5, z6⟩, ⟨zf0, zf1, zf2, zf3, zf4, zf5, zf6⟩⟩ := bx7 HZ5.out
  clear hp ho hz hk5 o5 HP4 HO4 HZ4
  go_wp2_with fail
  have hfz : Bx (((((((((w5.setCell ⟨w.heap.size + 1 + 1, 5, none⟩ (.slice (some ⟨W4.heap.size, 0, none⟩) dr.length dr.length)).setCell ⟨w.heap.size + 1 + 1, 6, none⟩ (.int .i64 tol)).setCell ⟨w.heap.size + 1, 0, none⟩ (.int .i64 J)).setCell ⟨w.heap.size + 1, 1, none⟩ (.slice B1 xs.length m1)).setCell ⟨w.heap.size + 1, 2, none⟩ (.slice (some ⟨W1.heap.size, 0, none⟩) ds.length ds.length)).setCell ⟨w.heap.size + 1, 3, none⟩ (.slice (some ⟨W2.heap.size, 0, none⟩) ls.length ls.length)).setCell ⟨w.heap.size + 1, 4, none⟩ (.slice (some ⟨W3.heap.size, 0, none⟩) fs.length fs.length)).setCell ⟨w.heap.size + 1, 5, none⟩ (.slice (some ⟨W4.heap.size, 0, none⟩) dr.length dr.length)).setCell ⟨w.heap.size + 1, 6, none⟩ (.int .i64 tol)) (w.heap.size + 1) [.int .i64 J, .slice B1 xs.length m1, .slice (some ⟨W1.heap.size, 0, none⟩) ds.length ds.length, .slice (some ⟨W2.heap.size, 0, none⟩) ls.length ls.length, .slice (some ⟨W3.heap.size, 0, none⟩) fs.length fs.length, .slice (some ⟨W4.heap.size, 0, none⟩) dr.length dr.length, .int .i64 tol] := (((((((HZ5.out.set 0 (.int .i64 J) (by simp)).set 1 (.slice B1 xs.length m1) (by simp)).set 2 (.slice (some ⟨W1.heap.size, 0, none⟩) ds.length ds.length) (by simp)).set 3 (.slice (some ⟨W2.heap.size, 0, none⟩) ls.length ls.length) (by simp)).set 4 (.slice (some ⟨W3.heap.size, 0, none⟩) fs.length fs.length) (by simp)).set 5 (.slice (some ⟨W4.heap.size, 0, none⟩) dr.length dr.length) (by simp)).set 6 (.int .i64 tol) (by simp))
  have hbf : Below w.heap.size w (((((((((w5.setCell ⟨w.heap.size + 1 + 1, 5, none⟩ (.slice (some ⟨W4.heap.size, 0, none⟩) dr.length dr.length)).setCell ⟨w.heap.size + 1 + 1, 6, none⟩ (.int .i64 tol)).setCell ⟨w.heap.size + 1, 0, none⟩ (.int .i64 J)).setCell ⟨w.heap.size + 1, 1, none⟩ (.slice B1 xs.length m1)).setCell ⟨w.heap.size + 1, 2, none⟩ (.slice (some ⟨W1.heap.size, 0, none⟩) ds.length ds.length)).setCell ⟨w.heap.size + 1, 3, none⟩ (.slice (some ⟨W2.heap.size, 0, none⟩) ls.length ls.length)).setCell ⟨w.heap.size + 1, 4, none⟩ (.slice (some ⟨W3.heap.size, 0, none⟩) fs.length fs.length)).setCell ⟨w.heap.size + 1, 5, none⟩ (.slice (some ⟨W4.heap.size, 0, none⟩) dr.length dr.length)).setCell ⟨w.heap.size + 1, 6, none⟩ (.int .i64 tol)) := (((((((be5.setCell (p := ⟨w.heap.size + 1, 0, none⟩) (by simp) (.int .i64 J)).setCell (p := ⟨w.heap.size + 1, 1, none⟩) (by simp) (.slice B1 xs.length m1)).setCell (p := ⟨w.heap.size + 1, 2, none⟩) (by simp) (.slice (some ⟨W1.heap.size, 0, none⟩) ds.length ds.length)).setCell (p := ⟨w.heap.size + 1, 3, none⟩) (by simp) (.slice (some ⟨W2.heap.size, 0, none⟩) ls.length ls.length)).setCell (p := ⟨w.heap.size + 1, 4, none⟩) (by simp) (.slice (some ⟨W3.heap.size, 0, none⟩) fs.length fs.length)).setCell (p := ⟨w.heap.size + 1, 5, none⟩) (by simp) (.slice (some ⟨W4.heap.size, 0, none⟩) dr.length dr.length)).setCell (p := ⟨w.heap.size + 1, 6, none⟩) (by simp) (.int .i64 tol))
  have hkf : Kept ((w.heap.size + 1 + 1) + 1) w5 (((((((((w5.setCell ⟨w.heap.size + 1 + 1, 5, none⟩ (.slice (some ⟨W4.heap.size, 0, none⟩) dr.length dr.length)).setCell ⟨w.heap.size + 1 + 1, 6, none⟩ (.int .i64 tol)).setCell ⟨w.heap.size + 1, 0, none⟩ (.int .i64 J)).setCell ⟨w.heap.size + 1, 1, none⟩ (.slice B1 xs.length m1)).setCell ⟨w.heap.size + 1, 2, none⟩ (.slice (some ⟨W1.heap.size, 0, none⟩) ds.length ds.length)).setCell ⟨w.heap.size + 1, 3, none⟩ (.slice (some ⟨W2.heap.size, 0, none⟩) ls.length ls.length)).setCell ⟨w.heap.size + 1, 4, none⟩ (.slice (some ⟨W3.heap.size, 0, none⟩) fs.length fs.length)).setCell ⟨w.heap.size + 1, 5, none⟩ (.slice (some ⟨W4.heap.size, 0, none⟩) dr.length dr.length)).setCell ⟨w.heap.size + 1, 6, none⟩ (.int .i64 tol)) := (Kept.setCell (Kept.setCell (Kept.setCell (Kept.setCell (Kept.setCell (Kept.setCell (Kept.setCell HK5.out (p := ⟨w.heap.size + 1, 0, none⟩) (v := .int .i64 J) (by simp)) (p := ⟨w.heap.size + 1, 1, none⟩) (v := (.slice B1 xs.length m1)) (by simp)) (p := ⟨w.heap.size + 1, 2, none⟩) (v := (.slice (some ⟨W1.heap.size, 0, none⟩) ds.length ds.length)) (by simp)) (p := ⟨w.heap.size + 1, 3, none⟩) (v := (.slice (some ⟨W2.heap.size, 0, none⟩) ls.length ls.length)) (by simp)) (p := ⟨w.heap.size + 1, 4, none⟩) (v := (.slice (some ⟨W3.heap.size, 0, none⟩) fs.length fs.length)) (by simp)) (p := ⟨w.heap.size + 1, 5, none⟩) (v := (.slice (some ⟨W4.heap.size, 0, none⟩) dr.length dr.length)) (by simp)) (p := ⟨w.heap.size + 1, 6, none⟩) (v := .int .i64 tol) (by simp))
  obtain ⟨⟨r0, r1, r2, r3, r4, r5, r6⟩, ⟨rf0, rf1, rf2, rf3, rf4, rf5, rf6⟩⟩ := bx7 hfz
  clear hfz
  generalize hFIN : (((((((((w5.setCell ⟨w.heap.size + 1 + 1, 5, none⟩ (.slice (some ⟨W4.heap.size, 0, none⟩) dr.length dr.length)).setCell ⟨w.heap.size + 1 + 1, 6, none⟩ (.int .i64 tol)).setCell ⟨w.heap.size + 1, 0, none⟩ (.int .i64 J)).setCell ⟨w.heap.size + 1, 1, none⟩ (.slice B1 xs.length m1)).setCell ⟨w.heap.size + 1, 2, none⟩ (.slice (some ⟨W1.heap.size, 0, none⟩) ds.length ds.length)).setCell ⟨w.heap.size + 1, 3, none⟩ (.slice (some ⟨W2.heap.size, 0, none⟩) ls.length ls.length)).setCell ⟨w.heap.size + 1, 4, none⟩ (.slice (some ⟨W3.heap.size, 0, none⟩) fs.length fs.length)).setCell ⟨w.heap.size + 1, 5, none⟩ (.slice (some ⟨W4.heap.size, 0, none⟩) dr.length dr.length)).setCell ⟨w.heap.size + 1, 6, none⟩ (.int .i64 tol)) = FIN at *
  have K4 := (HK4.out.below hb5).trans hkf
  have K3 := (HK3.out.below hb4).trans K4
  have K2 := (HK2.out.below hb3).trans K3
  have K1 := (HK1.out.below hb2).trans K2
  have R1 := OwnR.rows encA_len (own_kept HW1.out K1 (by omega))
  have R2 := OwnR.rows encDo_len (own_kept HW2.out K2 (by omega))
  have R3 := ((HW3.out.less (L' := (w.heap.size + 1 + 1) + 1) (by omega)).kept K3).nest
  have R4 := ((HW4.out.less (L' := (w.heap.size + 1 + 1) + 1) (by omega)).kept K4).fns
  have R5 := Own.ints (own_kept HW5.out hkf (by omega))
  exact bodyPost_ret (v := .agg #[.int .i64 J, .slice B1 xs.length m1, .slice (some ⟨W1.heap.size, 0, none⟩) ds.length ds.length, .slice (some ⟨W2.heap.size, 0, none⟩) ls.length ls.length, .slice (some ⟨W3.heap.size, 0, none⟩) fs.length fs.length, .slice (some ⟨W4.heap.size, 0, none⟩) dr.length dr.length, .int .i64 tol]) (by simp [results, Try.results35, go_sem, r0, r1, r2, r3, r4, r5, r6]) rfl ⟨_, rfl, ⟨_, _, _, _, _, _, _, _, _, _, rfl, R1, R2, R3, R4, R5⟩, (fun _ _ _ _ _ _ _ _ _ e => by simp only [Value.agg.injEq, Array.mk.injEq, List.cons.injEq, Value.slice.injEq] at e; omega), hbf⟩
/-- All that a plant's parts must be to be an argument. -/
structure PtFits (p : Pt) : Prop where
  xs : FitsA p.xs
  xl : p.xs.length ≤ maxLen
  ds : FitsDo p.ds
  dl : p.ds.length ≤ maxLen
  ll : p.ls.length ≤ maxLen
  ls : ∀ l ∈ p.ls, l.length ≤ maxLen ∧ Fits l
  fl : p.fs.length ≤ maxLen
  fs : FitsF p.fs
  rl : p.dr.length ≤ maxLen
  dr : Fits p.dr
  tol : -9223372036854775808 ≤ p.tol ∧ p.tol ≤ 9223372036854775807
  J : -9223372036854775808 ≤ p.J ∧ p.J ≤ 9223372036854775807
def szI (n : Nat) (left : Int) : Int := if (n : Int) ≤ left then left - n else -1
theorem szI_or (n : Nat) (left : Int) : szI n left = -1 ∨ (0 ≤ szI n left ∧ szI n left ≤ left ∧ (n : Int) ≤ left) := by unfold szI; split <;> omega
theorem szA_le (xs : List Aw) (left : Int) : szA xs left = -1 ∨ (0 ≤ szA xs left ∧ szA xs left ≤ left ∧ (xs.length : Int) ≤ left) := by
  have := idLen_nonneg xs xs.length
  unfold szA
  split <;> omega
def a1P (p : Pt) : Int := szA p.xs 1048576
def a2P (p : Pt) : Int := szDo p.ds (a1P p)
def a3P (p : Pt) : Int := szL p.ls (a2P p)
def a4P (p : Pt) : Int := szF p.fs (a3P p)
def a5P (p : Pt) : Int := szI p.dr.length (a4P p)
def szP (p : Pt) : Int := if a1P p < 0 then -1 else if a2P p < 0 then -1 else if a3P p < 0 then -1 else if a4P p < 0 then -1 else a5P p
theorem szP_or (p : Pt) : szP p < 0 ∨ PtLen p := by
  unfold szP
  by_cases h1 : a1P p < 0
  · rw [if_pos h1]; exact .inl (by decide)
  rw [if_neg h1]
  by_cases h2 : a2P p < 0
  · rw [if_pos h2]; exact .inl (by decide)
  rw [if_neg h2]
  by_cases h3 : a3P p < 0
  · rw [if_pos h3]; exact .inl (by decide)
  rw [if_neg h3]
  by_cases h4 : a4P p < 0
  · rw [if_pos h4]; exact .inl (by decide)
  rw [if_neg h4]
  by_cases h5 : a5P p < 0
  · exact .inl h5
  have e1 : a1P p = szA p.xs 1048576 := rfl
  have e2 : a2P p = szDo p.ds (a1P p) := rfl
  have e3 : a3P p = szL p.ls (a2P p) := rfl
  have e4 : a4P p = szF p.fs (a3P p) := rfl
  have e5 : a5P p = szI p.dr.length (a4P p) := rfl
  rw [e5] at h5; rw [e4] at h4; rw [e3] at h3; rw [e2] at h2; rw [e1] at h1
  rcases szA_le p.xs 1048576 with q | ⟨_, q1, q1'⟩
  · omega
  rw [← e1] at q1
  rcases szDo_or p.ds (a1P p) (by omega) with q | ⟨_, q2, q2'⟩
  · omega
  rw [← e2] at q2
  rcases szL_or p.ls (a2P p) with q | ⟨_, q3, q3', q3''⟩
  · omega
  rw [← e3] at q3
  rcases szF_or p.fs (a3P p) (by omega) (by omega) with q | ⟨_, q4, q4', q4''⟩
  · omega
  rw [← e4] at q4
  rcases szI_or p.dr.length (a4P p) with q | ⟨_, q5, q5'⟩
  · omega
  exact .inr ⟨by omega, by omega, by omega, fun l hl => by have := q3'' l hl; omega, by omega, q4'', by omega⟩
set_option maxRecDepth 100000 in
set_option maxHeartbeats 1600000 in
theorem szPlant_any (v : Value) (p : Pt) (w : World) (hf : PtFits p) (hI : PlantIs w.heap.size w v p) :
    Calls Try.prog 33 #[v, .int .i64 1048576] w fun e w' => e = .returned (.int .i64 (szP p)) ∧ Below w.heap.size w w' := by
  have Q1 := szA_le p.xs 1048576
  have Q2 : a1P p ≤ 1048576 → _ := fun h => szDo_or p.ds (a1P p) h
  have Q3 := szL_or p.ls (a2P p)
  have Q4 : a3P p ≤ 1048576 → 0 ≤ a3P p → _ := fun h h0 => szF_or p.fs (a3P p) h h0
  have Q5 := szI_or p.dr.length (a4P p)
  have HP : Hid (szP p = if a1P p < 0 then -1 else if a2P p < 0 then -1 else if a3P p < 0 then -1 else if a4P p < 0 then -1 else a5P p) := Lib.hid rfl
  obtain ⟨A1, k1, A2, k2, A3, k3, A4, k4, A5, k5, rfl, i1, i2, i3, i4, i5⟩ := hI
  have C1 := Lib.hid (fun W (hb : Below w.heap.size w W) => szMine_any p.J A1 k1 p.xs 1048576 w.heap.size W (by decide) (by decide) hf.xl hf.xs (i1.below hb) hb.size)
  have C2 : Hid (0 ≤ a1P p → a1P p ≤ 1048576 → ∀ W, Below w.heap.size w W → Calls Try.prog 71 #[.slice A2 p.ds.length k2, .int .i64 (a1P p)] W fun e w' => e = .returned (.int .i64 (a2P p)) ∧ Below W.heap.size W w') := Lib.hid (fun h h' W (hb : Below w.heap.size w W) => szDoorS_any A2 k2 p.ds (a1P p) w.heap.size W h h' hf.dl hf.ds (i2.below hb) hb.size)
  have C3 : Hid (0 ≤ a2P p → a2P p ≤ 1048576 → ∀ W, Below w.heap.size w W → Calls Try.prog 72 #[.slice A3 p.ls.length k3, .int .i64 (a2P p)] W fun e w' => e = .returned (.int .i64 (a3P p)) ∧ W = w') := Lib.hid (fun h h' W (hb : Below w.heap.size w W) => szInt64SS_any A3 k3 p.ls (a2P p) w.heap.size W h h' hf.ll (fun l hl => (hf.ls l hl).1) (i3.below hb))
  have C4 : Hid (0 ≤ a3P p → a3P p ≤ 1048576 → ∀ W, Below w.heap.size w W → Calls Try.prog 73 #[.slice A4 p.fs.length k4, .int .i64 (a3P p)] W fun e w' => e = .returned (.int .i64 (a4P p)) ∧ Below W.heap.size W w') := Lib.hid (fun h h' W (hb : Below w.heap.size w W) => szFanS_any A4 k4 p.fs (a3P p) w.heap.size W h h' hf.fl hf.fs (i4.below hb) hb.size)
  have C5 : Hid (0 ≤ a4P p → a4P p ≤ 1048576 → ∀ W, Calls Try.prog 74 #[.slice A5 p.dr.length k5, .int .i64 (a4P p)] W fun e w' => e = .returned (.int .i64 (a5P p)) ∧ W = w') := Lib.hid (fun h h' W => by
    by_cases hc : (p.dr.length : Int) ≤ a4P p
    · have e : a5P p = a4P p - p.dr.length := by unfold a5P szI; rw [if_pos hc]
      rw [e]; exact szInt64S_yes A5 k5 p.dr.length (a4P p) W h' hc
    · have e : a5P p = -1 := by unfold a5P szI; rw [if_neg hc]
      rw [e]; exact szInt64S_no A5 k5 p.dr.length (a4P p) W h h' hf.rl (by omega))
  obtain ⟨J, xs, ds, ls, fs, dr, tol⟩ := p
  clear i1 i2 i3 i4 i5 hf
  dsimp only at *
  rw [show szA xs 1048576 = a1P ⟨J, xs, ds, ls, fs, dr, tol⟩ from rfl] at Q1 C1
  rw [show szDo ds (a1P ⟨J, xs, ds, ls, fs, dr, tol⟩) = a2P ⟨J, xs, ds, ls, fs, dr, tol⟩ from rfl] at Q2
  rw [show szL ls (a2P ⟨J, xs, ds, ls, fs, dr, tol⟩) = a3P ⟨J, xs, ds, ls, fs, dr, tol⟩ from rfl] at Q3
  rw [show szF fs (a3P ⟨J, xs, ds, ls, fs, dr, tol⟩) = a4P ⟨J, xs, ds, ls, fs, dr, tol⟩ from rfl] at Q4
  rw [show szI dr.length (a4P ⟨J, xs, ds, ls, fs, dr, tol⟩) = a5P ⟨J, xs, ds, ls, fs, dr, tol⟩ from rfl] at Q5
  generalize a1P ⟨J, xs, ds, ls, fs, dr, tol⟩ = a1 at *
  generalize a2P ⟨J, xs, ds, ls, fs, dr, tol⟩ = a2 at *
  generalize a3P ⟨J, xs, ds, ls, fs, dr, tol⟩ = a3 at *
  generalize a4P ⟨J, xs, ds, ls, fs, dr, tol⟩ = a4 at *
  generalize a5P ⟨J, xs, ds, ls, fs, dr, tol⟩ = a5 at *
  generalize szP ⟨J, xs, ds, ls, fs, dr, tol⟩ = R at *
  have be0 : Below w.heap.size w (w.alloc (.cells #[.int .i64 J, .slice A1 xs.length k1, .slice A2 ds.length k2, .slice A3 ls.length k3, .slice A4 fs.length k4, .slice A5 dr.length k5, .int .i64 tol] 56)) := by go_grown
  have hbx : Bx (w.alloc (.cells #[.int .i64 J, .slice A1 xs.length k1, .slice A2 ds.length k2, .slice A3 ls.length k3, .slice A4 fs.length k4, .slice A5 dr.length k5, .int .i64 tol] 56)) w.heap.size [.int .i64 J, .slice A1 xs.length k1, .slice A2 ds.length k2, .slice A3 ls.length k3, .slice A4 fs.length k4, .slice A5 dr.length k5, .int .i64 tol] := bx7_of (by go_simp) (by go_simp) (by go_simp) (by go_simp) (by go_simp) (by go_simp) (by go_simp) (fun j => by go_simp)
  have szg0 : w.heap.size < ((w.alloc (.cells #[.int .i64 J, .slice A1 xs.length k1, .slice A2 ds.length k2, .slice A3 ls.length k3, .slice A4 fs.length k4, .slice A5 dr.length k5, .int .i64 tol] 56))).heap.size := by simp
  have HB0 := Lib.hid hbx
  clear hbx
  go_enter Try.func33, Try.ntmps33
  go_wp2_with fail
  generalize (w.alloc (.cells #[.int .i64 J, .slice A1 xs.length k1, .slice A2 ds.length k2, .slice A3 ls.length k3, .slice A4 fs.length k4, .slice A5 dr.length k5, .int .i64 tol] 56)) = w0 at *
  refine (C1.out _ be0).mono ?_
  rintro e w1 ⟨rfl, hb1⟩
  have HB1 := Lib.hid (HB0.out.below hb1 szg0)
  have be1 := be0.trans (hb1.mono be0.size)
  have szg1 : w.heap.size < w1.heap.size := Nat.lt_of_lt_of_le szg0 hb1.size
  have q1 := Q1
  obtain ⟨⟨p0, p1, p2, p3, p4, p5, p6⟩, ⟨pf0, pf1, pf2, pf3, pf4, pf5, pf6⟩⟩ := bx7 HB1.out
  by_cases h1 : a1 < 0
  · have e1 : R = -1 := by rw [HP.out]; rw [if_pos h1]
    clear p0 pf0 p1 pf1 p2 pf2 p3 pf3 p4 pf4 p5 pf5 p6 pf6
    go_wp2_with fail
    go_ret
    exact ⟨ret_int e1.symm, be1⟩
  go_wp2_with fail
  clear p0 pf0 p1 pf1 p2 pf2 p3 pf3 p4 pf4 p5 pf5 p6 pf6
  refine (C2.out (by omega) (by omega) _ be1).mono ?_
  rintro e w2 ⟨rfl, hb2⟩
  have HB2 := Lib.hid (HB1.out.below hb2 szg1)
  have be2 := be1.trans (hb2.mono be1.size)
  have szg2 : w.heap.size < w2.heap.size := Nat.lt_of_lt_of_le szg1 hb2.size
  have q2 := (Q2 (by omega))
  obtain ⟨⟨p0, p1, p2, p3, p4, p5, p6⟩, ⟨pf0, pf1, pf2, pf3, pf4, pf5, pf6⟩⟩ := bx7 HB2.out
  by_cases h2 : a2 < 0
  · have e2 : R = -1 := by rw [HP.out]; rw [if_neg (show ¬ a1 < 0 by omega)]; rw [if_pos h2]
    clear p0 pf0 p1 pf1 p2 pf2 p3 pf3 p4 pf4 p5 pf5 p6 pf6
    go_wp2_with fail
    go_ret
    exact ⟨ret_int e2.symm, be2⟩
  go_wp2_with fail
  clear p0 pf0 p1 pf1 p2 pf2 p3 pf3 p4 pf4 p5 pf5 p6 pf6
  refine (C3.out (by omega) (by omega) _ be2).mono ?_
  rintro e w3 ⟨rfl, rfl⟩
  have HB3 := HB2
  have be3 := be2
  have szg3 := szg2
  have q3 := Q3
  obtain ⟨⟨p0, p1, p2, p3, p4, p5, p6⟩, ⟨pf0, pf1, pf2, pf3, pf4, pf5, pf6⟩⟩ := bx7 HB3.out
  by_cases h3 : a3 < 0
  · have e3 : R = -1 := by rw [HP.out]; rw [if_neg (show ¬ a1 < 0 by omega)]; rw [if_neg (show ¬ a2 < 0 by omega)]; rw [if_pos h3]
    clear p0 pf0 p1 pf1 p2 pf2 p3 pf3 p4 pf4 p5 pf5 p6 pf6
    go_wp2_with fail
    go_ret
    exact ⟨ret_int e3.symm, be3⟩
  go_wp2_with fail
  clear p0 pf0 p1 pf1 p2 pf2 p3 pf3 p4 pf4 p5 pf5 p6 pf6
  refine (C4.out (by omega) (by omega) _ be3).mono ?_
  rintro e w4 ⟨rfl, hb4⟩
  have HB4 := Lib.hid (HB3.out.below hb4 szg3)
  have be4 := be3.trans (hb4.mono be3.size)
  have szg4 : w.heap.size < w4.heap.size := Nat.lt_of_lt_of_le szg3 hb4.size
  have q4 := (Q4 (by omega) (by omega))
  obtain ⟨⟨p0, p1, p2, p3, p4, p5, p6⟩, ⟨pf0, pf1, pf2, pf3, pf4, pf5, pf6⟩⟩ := bx7 HB4.out
  by_cases h4 : a4 < 0
  · have e4 : R = -1 := by rw [HP.out]; rw [if_neg (show ¬ a1 < 0 by omega)]; rw [if_neg (show ¬ a2 < 0 by omega)]; rw [if_neg (show ¬ a3 < 0 by omega)]; rw [if_pos h4]
    clear p0 pf0 p1 pf1 p2 pf2 p3 pf3 p4 pf4 p5 pf5 p6 pf6
    go_wp2_with fail
    go_ret
    exact ⟨ret_int e4.symm, be4⟩
  go_wp2_with fail
  clear p0 pf0 p1 pf1 p2 pf2 p3 pf3 p4 pf4 p5 pf5 p6 pf6
  refine (C5.out (by omega) (by omega) _).mono ?_
  rintro e w5 ⟨rfl, rfl⟩
  have HB5 := HB4
  have be5 := be4
  have szg5 := szg4
  have q5 := Q5
  have e5 : R = a5 := by rw [HP.out]; rw [if_neg (show ¬ a1 < 0 by omega)]; rw [if_neg (show ¬ a2 < 0 by omega)]; rw [if_neg (show ¬ a3 < 0 by omega)]; rw [if_neg (show ¬ a4 < 0 by omega)]
  by_cases h5 : a5 < 0
  · have e6 : a5 = -1 := by omega
    go_wp2_with fail
    go_ret
    exact ⟨ret_int (by rw [e5, e6]), be5⟩
  · go_wp2_with fail
    go_ret
    exact ⟨ret_int e5.symm, be5⟩
end Go.Proofs.Ytlgagnbnjfneaaa
