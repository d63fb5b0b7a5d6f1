/- Proved here: the parts Plant, Frame6, Thaw of the row's proof, joined by a program. Conditions: as each part says. -/
import Derived.Test.YtejkoicgbgoiaaaGreatFm3
/- Plants: what one is in memory; the laws' own functions on them: a copy, a size, a comparison. Conditions: the lengths that each theorem names. Printed by gen_plant.py. -/
namespace Go.Proofs.YtejkoicgbgoiaaaGreat
open Go.RowKit
open Pl
/-! ### Blocks from L on are kept -/
def Kept (L : Nat) (w w' : World) : Prop := w.heap.size ≤ w'.heap.size ∧ ∀ b, L ≤ b → b < w.heap.size → w'.heap[b]? = w.heap[b]?
theorem Kept.refl (L : Nat) (w : World) : Kept L w w := ⟨Nat.le_refl _, fun _ _ _ => rfl⟩
theorem Kept.trans {L : Nat} {a b c : World} (h : Kept L a b) (k : Kept L b c) : Kept L a c := ⟨Nat.le_trans h.1 k.1, fun i hi hl => (k.2 i hi (Nat.lt_of_lt_of_le hl h.1)).trans (h.2 i hi hl)⟩
theorem Kept.below {L : Nat} {a w w' : World} (h : Kept L a w) (hb : Below w.heap.size w w') : Kept L a w' := h.trans ⟨hb.size, fun b _ hl => hb.block b hl⟩
theorem Kept.setCell {L : Nat} {a w : World} (h : Kept L a w) {p : Addr} {v : Value} (hp : p.block < L) : Kept L a (w.setCell p v) := h.trans ⟨by simp [World.setCell], fun b hb _ => Below.heap_setCell _ _ _ _ (by omega)⟩
theorem own_kept {L base s n : Nat} {T : TypeId} {w w' : World} {v : Value} {xs : List Value} (h : w.ownsRow base T s v n xs) (hk : Kept L w w') (hL : L ≤ base) : w'.ownsRow base T s v n xs := by
  refine ⟨h.1, ?_⟩
  rcases h.2 with hn | ⟨g, cap, cur, e1, e2, e3, rest⟩
  · exact .inl hn
  · refine .inr ⟨g, cap, cur, e1, e2, (hk.2 g (by omega) ?_).trans e3, rest⟩
    exact (World.ownsRow.lt h g (by rw [e1]; rfl)).2
theorem NestL.kept {L : Nat} {w w' : World} {A : Option Addr} {xss : List (List Int)} (h : NestL L w.heap.size w A xss) (hk : Kept L w w') : NestL L w'.heap.size w' A xss := by
  intro hn
  obtain ⟨b, o, e, hl, hlt, hc⟩ := h hn
  refine ⟨b, o, e, hl, Nat.lt_of_lt_of_le hlt hk.1, fun k hkk => ?_⟩
  obtain ⟨A', c, h1, h2, h3⟩ := hc k hkk
  refine ⟨A', c, (World.cell?_of_block (a := ⟨b, o + k, none⟩) (hk.2 b hl hlt)).trans h1, fun hp => ?_, h3⟩
  obtain ⟨ad, ea, hal, hcc⟩ := h2 hp
  refine ⟨ad, ea, Nat.lt_of_lt_of_le hal hk.1, fun j hj => ?_⟩
  rw [World.cell?_of_block (w := w) (a := ad.add j) (by rw [block_add]; exact hk.2 ad.block (h3 ad ea) hal)]
  exact hcc j hj
theorem FnsL.kept {L : Nat} {w w' : World} {A : Option Addr} {xs : List Fa} (h : FnsL L w.heap.size w A xs) (hk : Kept L w w') : FnsL L w'.heap.size w' A xs := by
  intro hn
  obtain ⟨b, o, e, hl, hlt, hc⟩ := h hn
  have hcell : ∀ j, w'.cell? ⟨b, j, none⟩ = w.cell? ⟨b, j, none⟩ := fun j => World.cell?_of_block (a := ⟨b, j, none⟩) (hk.2 b hl hlt)
  refine ⟨b, o, e, hl, Nat.lt_of_lt_of_le hlt hk.1, fun k hkk => ?_⟩
  obtain ⟨h0, h1, A', c, h2, h3⟩ := hc k hkk
  exact ⟨(hcell _).trans h0, (hcell _).trans h1, A', c, (hcell _).trans h2, h3.kept hk⟩
/-! ### A box: its cells -/
def Bx (w : World) (g : Nat) (vs : List Value) : Prop := ∀ j, j < vs.length → w.cell? ⟨g, j, none⟩ = some (vs.getD j (.bool false)) ∧ w.frozen? ⟨g, j, none⟩ = false
theorem Bx.below {B g : Nat} {w w' : World} {vs : List Value} (h : Bx w g vs) (hb : Below B w w') (hg : g < B) : Bx w' g vs := fun j hj => ⟨(hb.cell (p := ⟨g, j, none⟩) hg).trans (h j hj).1, (hb.frozen (p := ⟨g, j, none⟩) hg).trans (h j hj).2⟩
theorem Bx.other {g : Nat} {w : World} {vs : List Value} (h : Bx w g vs) {p : Addr} (v : Value) (hp : p.block ≠ g) : Bx (w.setCell p v) g vs := fun j hj => ⟨(World.cell?_setCell_other _ _ _ _ (fun e => hp (by rw [e]))).trans (h j hj).1, by simpa using (h j hj).2⟩
theorem Bx.set {g : Nat} {w : World} {vs : List Value} (h : Bx w g vs) (i : Nat) (v : Value) (hi : i < vs.length) : Bx (w.setCell ⟨g, i, none⟩ v) g (vs.set i v) := fun j hj => by
  rw [List.length_set] at hj
  refine ⟨?_, by simpa using (h j hj).2⟩
  by_cases e : j = i
  · subst e
    rw [World.cell?_setCell_same _ _ _ (h j hj).1]
    simp [List.getD, hi]
  · rw [World.cell?_setCell_other _ _ _ _ (fun e' => e (by injection e' with _ h2; exact h2.symm)), (h j hj).1]
    simp [List.getD, List.getElem?_set_ne (Ne.symm e)]
/-! ### Plants -/
structure Pt where
  J : Int
  xs : List Aw
  ds : List Do
  ls : List (List Int)
  fs : List Fa
  dr : List Int
  tol : Int
/-- v is a plant that reads as p, all of it in blocks below B. -/
def PlantIs (B : Nat) (w : World) (v : Value) (p : Pt) : Prop :=
  ∃ A1 c1 A2 c2 A3 c3 A4 c4 A5 c5, v = .agg #[.int .i64 p.J, .slice A1 p.xs.length c1, .slice A2 p.ds.length c2, .slice A3 p.ls.length c3, .slice A4 p.fs.length c4, .slice A5 p.dr.length c5, .int .i64 p.tol] ∧ Recs encA 7 B w A1 p.xs ∧ Recs encDo 4 B w A2 p.ds ∧ Nest B w A3 p.ls ∧ Fns B w A4 p.fs ∧ Ints B w A5 p.dr
/-- The list of doors may be cut where it ends. -/
def CapOk (v : Value) : Prop := ∀ a b A2 n c2 d e f g, v = .agg #[a, b, .slice A2 n c2, d, e, f, g] → n ≤ c2
theorem PlantIs.later {w w' : World} {v : Value} {p : Pt} (h : PlantIs w.heap.size w v p) (hb : Below w.heap.size w w') : PlantIs w'.heap.size w' v p := by
  obtain ⟨A1, c1, A2, c2, A3, c3, A4, c4, A5, c5, e, h1, h2, h3, h4, h5⟩ := h
  exact ⟨A1, c1, A2, c2, A3, c3, A4, c4, A5, c5, e, (h1.below hb).more hb.size, (h2.below hb).more hb.size, h3.later hb, h4.later hb, (h5.below hb).more hb.size⟩
theorem bx7 {w : World} {g : Nat} {v0 v1 v2 v3 v4 v5 v6 : Value} (h : Bx w g [v0, v1, v2, v3, v4, v5, v6]) : (w.cell? ⟨g, 0, none⟩ = some v0 ∧ w.cell? ⟨g, 1, none⟩ = some v1 ∧ w.cell? ⟨g, 2, none⟩ = some v2 ∧ w.cell? ⟨g, 3, none⟩ = some v3 ∧ w.cell? ⟨g, 4, none⟩ = some v4 ∧ w.cell? ⟨g, 5, none⟩ = some v5 ∧ w.cell? ⟨g, 6, none⟩ = some v6) ∧ (w.frozen? ⟨g, 0, none⟩ = false ∧ w.frozen? ⟨g, 1, none⟩ = false ∧ w.frozen? ⟨g, 2, none⟩ = false ∧ w.frozen? ⟨g, 3, none⟩ = false ∧ w.frozen? ⟨g, 4, none⟩ = false ∧ w.frozen? ⟨g, 5, none⟩ = false ∧ w.frozen? ⟨g, 6, none⟩ = false) :=
  ⟨⟨(h 0 (by simp)).1, (h 1 (by simp)).1, (h 2 (by simp)).1, (h 3 (by simp)).1, (h 4 (by simp)).1, (h 5 (by simp)).1, (h 6 (by simp)).1⟩, (h 0 (by simp)).2, (h 1 (by simp)).2, (h 2 (by simp)).2, (h 3 (by simp)).2, (h 4 (by simp)).2, (h 5 (by simp)).2, (h 6 (by simp)).2⟩
theorem bx7_of {w : World} {g : Nat} {v0 v1 v2 v3 v4 v5 v6 : Value} (h0 : w.cell? ⟨g, 0, none⟩ = some v0) (h1 : w.cell? ⟨g, 1, none⟩ = some v1) (h2 : w.cell? ⟨g, 2, none⟩ = some v2) (h3 : w.cell? ⟨g, 3, none⟩ = some v3) (h4 : w.cell? ⟨g, 4, none⟩ = some v4) (h5 : w.cell? ⟨g, 5, none⟩ = some v5) (h6 : w.cell? ⟨g, 6, none⟩ = some v6) (hf : ∀ j, w.frozen? ⟨g, j, none⟩ = false) : Bx w g [v0, v1, v2, v3, v4, v5, v6] := fun j hj =>
  match j, hj with
  | 0, _ => ⟨h0, hf 0⟩
  | 1, _ => ⟨h1, hf 1⟩
  | 2, _ => ⟨h2, hf 2⟩
  | 3, _ => ⟨h3, hf 3⟩
  | 4, _ => ⟨h4, hf 4⟩
  | 5, _ => ⟨h5, hf 5⟩
  | 6, _ => ⟨h6, hf 6⟩
/-- The lengths that a law's test bounds. -/
def PtLen (p : Pt) : Prop := p.xs.length ≤ 1048576 ∧ p.ds.length ≤ 1048576 ∧ p.ls.length ≤ 1048576 ∧ (∀ l ∈ p.ls, l.length ≤ 1048576) ∧ p.fs.length ≤ 1048576 ∧ FansLen p.fs ∧ p.dr.length ≤ 1048576
set_option maxRecDepth 100000 in
set_option maxHeartbeats 3200000 in
theorem toPlant_any (v : Value) (p : Pt) (w : World) (hl : PtLen p) (hI : PlantIs w.heap.size w v p) :
    Calls Tryz.prog 25 #[v] w fun e w' => ∃ v', e = .returned v' ∧ PlantIs w'.heap.size w' v' p ∧ CapOk v' ∧ Below w.heap.size w w' := by
  obtain ⟨J, xs, ds, ls, fs, dr, tol⟩ := p
  obtain ⟨A1, k1, A2, k2, A3, k3, A4, k4, A5, k5, rfl, i1, i2, i3, i4, i5⟩ := hI
  obtain ⟨l1, l2, l3, l3', l4, l4', l5⟩ := hl
  dsimp only at *
  have be0 : Below w.heap.size w (((w.alloc (.cells #[.int .i64 J, .slice A1 xs.length k1, .slice A2 ds.length k2, .slice A3 ls.length k3, .slice A4 fs.length k4, .slice A5 dr.length k5, .int .i64 tol] 50)).alloc (.cells #[.int .i64 0, .slice none 0 0, .slice none 0 0, .slice none 0 0, .slice none 0 0, .slice none 0 0, .int .i64 0] 57)).alloc (.cells #[.int .i64 0, .slice none 0 0, .slice none 0 0, .slice none 0 0, .slice none 0 0, .slice none 0 0, .int .i64 0] 57)) := by go_grown
  have HP0 : Bx (((w.alloc (.cells #[.int .i64 J, .slice A1 xs.length k1, .slice A2 ds.length k2, .slice A3 ls.length k3, .slice A4 fs.length k4, .slice A5 dr.length k5, .int .i64 tol] 50)).alloc (.cells #[.int .i64 0, .slice none 0 0, .slice none 0 0, .slice none 0 0, .slice none 0 0, .slice none 0 0, .int .i64 0] 57)).alloc (.cells #[.int .i64 0, .slice none 0 0, .slice none 0 0, .slice none 0 0, .slice none 0 0, .slice none 0 0, .int .i64 0] 57)) w.heap.size [.int .i64 J, .slice A1 xs.length k1, .slice A2 ds.length k2, .slice A3 ls.length k3, .slice A4 fs.length k4, .slice A5 dr.length k5, .int .i64 tol] := bx7_of (by go_simp) (by go_simp) (by go_simp) (by go_simp) (by go_simp) (by go_simp) (by go_simp) (fun j => by go_simp)
  have HZ0 : Bx (((w.alloc (.cells #[.int .i64 J, .slice A1 xs.length k1, .slice A2 ds.length k2, .slice A3 ls.length k3, .slice A4 fs.length k4, .slice A5 dr.length k5, .int .i64 tol] 50)).alloc (.cells #[.int .i64 0, .slice none 0 0, .slice none 0 0, .slice none 0 0, .slice none 0 0, .slice none 0 0, .int .i64 0] 57)).alloc (.cells #[.int .i64 0, .slice none 0 0, .slice none 0 0, .slice none 0 0, .slice none 0 0, .slice none 0 0, .int .i64 0] 57)) (w.heap.size + 1) [.int .i64 0, .slice none 0 0, .slice none 0 0, .slice none 0 0, .slice none 0 0, .slice none 0 0, .int .i64 0] := bx7_of (by go_simp) (by go_simp) (by go_simp) (by go_simp) (by go_simp) (by go_simp) (by go_simp) (fun j => by go_simp)
  have HO0 : Bx (((w.alloc (.cells #[.int .i64 J, .slice A1 xs.length k1, .slice A2 ds.length k2, .slice A3 ls.length k3, .slice A4 fs.length k4, .slice A5 dr.length k5, .int .i64 tol] 50)).alloc (.cells #[.int .i64 0, .slice none 0 0, .slice none 0 0, .slice none 0 0, .slice none 0 0, .slice none 0 0, .int .i64 0] 57)).alloc (.cells #[.int .i64 0, .slice none 0 0, .slice none 0 0, .slice none 0 0, .slice none 0 0, .slice none 0 0, .int .i64 0] 57)) (w.heap.size + 1 + 1) [.int .i64 0, .slice none 0 0, .slice none 0 0, .slice none 0 0, .slice none 0 0, .slice none 0 0, .int .i64 0] := bx7_of (by go_simp) (by go_simp) (by go_simp) (by go_simp) (by go_simp) (by go_simp) (by go_simp) (fun j => by go_simp)
  have hs0 : ((((w.alloc (.cells #[.int .i64 J, .slice A1 xs.length k1, .slice A2 ds.length k2, .slice A3 ls.length k3, .slice A4 fs.length k4, .slice A5 dr.length k5, .int .i64 tol] 50)).alloc (.cells #[.int .i64 0, .slice none 0 0, .slice none 0 0, .slice none 0 0, .slice none 0 0, .slice none 0 0, .int .i64 0] 57)).alloc (.cells #[.int .i64 0, .slice none 0 0, .slice none 0 0, .slice none 0 0, .slice none 0 0, .slice none 0 0, .int .i64 0] 57))).heap.size = w.heap.size + 1 + 1 + 1 := by simp
  have C1 := Lib.hid (fun W (hb : Below w.heap.size w W) => toMine_any J A1 k1 xs w.heap.size W l1 (i1.below hb) hb.size)
  have C2 := Lib.hid (fun W (hb : Below w.heap.size w W) => toDoorS_any A2 k2 ds w.heap.size W l2 (i2.below hb) hb.size)
  have C3 := Lib.hid (fun W (hb : Below w.heap.size w W) => toInt64SS_low A3 k3 ls w.heap.size W l3 l3' (i3.below hb) hb.size)
  have C4 := Lib.hid (fun W (hb : Below w.heap.size w W) => toFanS_low A4 k4 fs w.heap.size W l4 l4' (i4.below hb) hb.size)
  have C5 := Lib.hid (fun W (hb : Below w.heap.size w W) => toInt64S_any A5 k5 dr w.heap.size W l5 (i5.below hb) hb.size)
  clear i1 i2 i3 i4 i5 l1 l2 l3 l3' l4 l4' l5
  have HP0 := Lib.hid HP0
  have HZ0 := Lib.hid HZ0
  have HO0 := Lib.hid HO0
  go_enter Tryz.func25, Tryz.ntmps25
  go_wp2_with fail
  generalize (((w.alloc (.cells #[.int .i64 J, .slice A1 xs.length k1, .slice A2 ds.length k2, .slice A3 ls.length k3, .slice A4 fs.length k4, .slice A5 dr.length k5, .int .i64 tol] 50)).alloc (.cells #[.int .i64 0, .slice none 0 0, .slice none 0 0, .slice none 0 0, .slice none 0 0, .slice none 0 0, .int .i64 0] 57)).alloc (.cells #[.int .i64 0, .slice none 0 0, .slice none 0 0, .slice none 0 0, .slice none 0 0, .slice none 0 0, .int .i64 0] 57)) = W0 at *
  have szg : (w.heap.size + 1 + 1) < W0.heap.size := by omega
  refine (C1.out _ be0).mono ?_
  rintro e w1 ⟨v1, rfl, o1, hb1⟩
  obtain ⟨B1, m1, rfl, -, -⟩ := o1.slice encA_len
  have hz1 := hb1.size
  have bw1 : Below w.heap.size w w1 := be0.trans (hb1.mono be0.size)
  have hp := HP0.out.below hb1 (by omega)
  have ho := HO0.out.below hb1 (by omega)
  have hz := HZ0.out.below hb1 (by omega)
  obtain ⟨⟨p0, p1, p2, p3, p4, p5, p6⟩, ⟨pf0, pf1, pf2, pf3, pf4, pf5, pf6⟩⟩ := bx7 hp
  obtain ⟨⟨q0, q1, q2, q3, q4, q5, q6⟩, ⟨qf0, qf1, qf2, qf3, qf4, qf5, qf6⟩⟩ := bx7 ho
  have HO1 : Hid (Bx ((w1.setCell ⟨w.heap.size + 1 + 1, 0, none⟩ (.int .i64 J)).setCell ⟨w.heap.size + 1 + 1, 1, none⟩ (.slice B1 xs.length m1)) (w.heap.size + 1 + 1) [.int .i64 J, .slice B1 xs.length m1, .slice none 0 0, .slice none 0 0, .slice none 0 0, .slice none 0 0, .int .i64 0]) := Lib.hid ((ho.set 0 (.int .i64 J) (by simp)).set 1 (.slice B1 xs.length m1) (by simp))
  have HP1 : Hid (Bx ((w1.setCell ⟨w.heap.size + 1 + 1, 0, none⟩ (.int .i64 J)).setCell ⟨w.heap.size + 1 + 1, 1, none⟩ (.slice B1 xs.length m1)) w.heap.size [.int .i64 J, .slice A1 xs.length k1, .slice A2 ds.length k2, .slice A3 ls.length k3, .slice A4 fs.length k4, .slice A5 dr.length k5, .int .i64 tol]) := Lib.hid ((hp.other (p := ⟨(w.heap.size + 1 + 1), 0, none⟩) (.int .i64 J) (by simp <;> omega)).other (p := ⟨(w.heap.size + 1 + 1), 1, none⟩) (.slice B1 xs.length m1) (by simp <;> omega))
  have HZ1 : Hid (Bx ((w1.setCell ⟨w.heap.size + 1 + 1, 0, none⟩ (.int .i64 J)).setCell ⟨w.heap.size + 1 + 1, 1, none⟩ (.slice B1 xs.length m1)) (w.heap.size + 1) [.int .i64 0, .slice none 0 0, .slice none 0 0, .slice none 0 0, .slice none 0 0, .slice none 0 0, .int .i64 0]) := Lib.hid ((hz.other (p := ⟨(w.heap.size + 1 + 1), 0, none⟩) (.int .i64 J) (by simp)).other (p := ⟨(w.heap.size + 1 + 1), 1, none⟩) (.slice B1 xs.length m1) (by simp))
  have be1 : Below w.heap.size w ((w1.setCell ⟨w.heap.size + 1 + 1, 0, none⟩ (.int .i64 J)).setCell ⟨w.heap.size + 1 + 1, 1, none⟩ (.slice B1 xs.length m1)) := ((bw1.setCell (p := ⟨(w.heap.size + 1 + 1), 0, none⟩) (by simp <;> omega) (.int .i64 J)).setCell (p := ⟨(w.heap.size + 1 + 1), 1, none⟩) (by simp <;> omega) (.slice B1 xs.length m1))
  have hk1 : Kept ((w.heap.size + 1 + 1) + 1) w1 ((w1.setCell ⟨w.heap.size + 1 + 1, 0, none⟩ (.int .i64 J)).setCell ⟨w.heap.size + 1 + 1, 1, none⟩ (.slice B1 xs.length m1)) := Kept.setCell ((Kept.refl _ _).setCell (p := ⟨(w.heap.size + 1 + 1), 0, none⟩) (by simp)) (p := ⟨(w.heap.size + 1 + 1), 1, none⟩) (by simp)
  have hsz1 : (((w1.setCell ⟨w.heap.size + 1 + 1, 0, none⟩ (.int .i64 J)).setCell ⟨w.heap.size + 1 + 1, 1, none⟩ (.slice B1 xs.length m1))).heap.size = w1.heap.size := by simp
  have szg1 : (w.heap.size + 1 + 1) < (((w1.setCell ⟨w.heap.size + 1 + 1, 0, none⟩ (.int .i64 J)).setCell ⟨w.heap.size + 1 + 1, 1, none⟩ (.slice B1 xs.length m1))).heap.size := by omega
  have HSZ1 := Lib.hid hsz1
  clear hsz1
  have HK1 := Lib.hid hk1
  have HW1 := Lib.hid o1
  clear hp ho hz hk1 o1 HP0 HO0 HZ0
  go_wp2_with fail
  generalize ((w1.setCell ⟨w.heap.size + 1 + 1, 0, none⟩ (.int .i64 J)).setCell ⟨w.heap.size + 1 + 1, 1, none⟩ (.slice B1 xs.length m1)) = W1 at *
  clear p0 pf0 q0 qf0 p1 pf1 q1 qf1 p2 pf2 q2 qf2 p3 pf3 q3 qf3 p4 pf4 q4 qf4 p5 pf5 q5 qf5 p6 pf6 q6 qf6
  refine (C2.out _ be1).mono ?_
  rintro e w2 ⟨rfl, o2, hb2⟩
  have hz2 := hb2.size
  have bw2 : Below w.heap.size w w2 := be1.trans (hb2.mono be1.size)
  have hp := HP1.out.below hb2 (by omega)
  have ho := HO1.out.below hb2 (by omega)
  have hz := HZ1.out.below hb2 (by omega)
  obtain ⟨⟨p0, p1, p2, p3, p4, p5, p6⟩, ⟨pf0, pf1, pf2, pf3, pf4, pf5, pf6⟩⟩ := bx7 hp
  obtain ⟨⟨q0, q1, q2, q3, q4, q5, q6⟩, ⟨qf0, qf1, qf2, qf3, qf4, qf5, qf6⟩⟩ := bx7 ho
  have HO2 : Hid (Bx (w2.setCell ⟨w.heap.size + 1 + 1, 2, none⟩ (.slice (some ⟨W1.heap.size, 0, none⟩) ds.length ds.length)) (w.heap.size + 1 + 1) [.int .i64 J, .slice B1 xs.length m1, .slice (some ⟨W1.heap.size, 0, none⟩) ds.length ds.length, .slice none 0 0, .slice none 0 0, .slice none 0 0, .int .i64 0]) := Lib.hid (ho.set 2 (.slice (some ⟨W1.heap.size, 0, none⟩) ds.length ds.length) (by simp))
  have HP2 : Hid (Bx (w2.setCell ⟨w.heap.size + 1 + 1, 2, none⟩ (.slice (some ⟨W1.heap.size, 0, none⟩) ds.length ds.length)) w.heap.size [.int .i64 J, .slice A1 xs.length k1, .slice A2 ds.length k2, .slice A3 ls.length k3, .slice A4 fs.length k4, .slice A5 dr.length k5, .int .i64 tol]) := Lib.hid (hp.other (p := ⟨(w.heap.size + 1 + 1), 2, none⟩) (.slice (some ⟨W1.heap.size, 0, none⟩) ds.length ds.length) (by simp <;> omega))
  have HZ2 : Hid (Bx (w2.setCell ⟨w.heap.size + 1 + 1, 2, none⟩ (.slice (some ⟨W1.heap.size, 0, none⟩) ds.length ds.length)) (w.heap.size + 1) [.int .i64 0, .slice none 0 0, .slice none 0 0, .slice none 0 0, .slice none 0 0, .slice none 0 0, .int .i64 0]) := Lib.hid (hz.other (p := ⟨(w.heap.size + 1 + 1), 2, none⟩) (.slice (some ⟨W1.heap.size, 0, none⟩) ds.length ds.length) (by simp))
  have be2 : Below w.heap.size w (w2.setCell ⟨w.heap.size + 1 + 1, 2, none⟩ (.slice (some ⟨W1.heap.size, 0, none⟩) ds.length ds.length)) := (bw2.setCell (p := ⟨(w.heap.size + 1 + 1), 2, none⟩) (by simp <;> omega) (.slice (some ⟨W1.heap.size, 0, none⟩) ds.length ds.length))
  have hk2 : Kept ((w.heap.size + 1 + 1) + 1) w2 (w2.setCell ⟨w.heap.size + 1 + 1, 2, none⟩ (.slice (some ⟨W1.heap.size, 0, none⟩) ds.length ds.length)) := (Kept.refl _ _).setCell (p := ⟨(w.heap.size + 1 + 1), 2, none⟩) (by simp)
  have hsz2 : ((w2.setCell ⟨w.heap.size + 1 + 1, 2, none⟩ (.slice (some ⟨W1.heap.size, 0, none⟩) ds.length ds.length))).heap.size = w2.heap.size := by simp
  have szg2 : (w.heap.size + 1 + 1) < ((w2.setCell ⟨w.heap.size + 1 + 1, 2, none⟩ (.slice (some ⟨W1.heap.size, 0, none⟩) ds.length ds.length))).heap.size := by omega
  have HSZ2 := Lib.hid hsz2
  clear hsz2
  have HK2 := Lib.hid hk2
  have HW2 := Lib.hid o2
  clear hp ho hz hk2 o2 HP1 HO1 HZ1
  go_wp2_with fail
  generalize (w2.setCell ⟨w.heap.size + 1 + 1, 2, none⟩ (.slice (some ⟨W1.heap.size, 0, none⟩) ds.length ds.length)) = W2 at *
  clear p0 pf0 q0 qf0 p1 pf1 q1 qf1 p2 pf2 q2 qf2 p3 pf3 q3 qf3 p4 pf4 q4 qf4 p5 pf5 q5 qf5 p6 pf6 q6 qf6
  refine (C3.out _ be2).mono ?_
  rintro e w3 ⟨rfl, o3, hb3⟩
  have hz3 := hb3.size
  have bw3 : Below w.heap.size w w3 := be2.trans (hb3.mono be2.size)
  have hp := HP2.out.below hb3 (by omega)
  have ho := HO2.out.below hb3 (by omega)
  have hz := HZ2.out.below hb3 (by omega)
  obtain ⟨⟨p0, p1, p2, p3, p4, p5, p6⟩, ⟨pf0, pf1, pf2, pf3, pf4, pf5, pf6⟩⟩ := bx7 hp
  obtain ⟨⟨q0, q1, q2, q3, q4, q5, q6⟩, ⟨qf0, qf1, qf2, qf3, qf4, qf5, qf6⟩⟩ := bx7 ho
  have HO3 : Hid (Bx (w3.setCell ⟨w.heap.size + 1 + 1, 3, none⟩ (.slice (some ⟨W2.heap.size, 0, none⟩) ls.length ls.length)) (w.heap.size + 1 + 1) [.int .i64 J, .slice B1 xs.length m1, .slice (some ⟨W1.heap.size, 0, none⟩) ds.length ds.length, .slice (some ⟨W2.heap.size, 0, none⟩) ls.length ls.length, .slice none 0 0, .slice none 0 0, .int .i64 0]) := Lib.hid (ho.set 3 (.slice (some ⟨W2.heap.size, 0, none⟩) ls.length ls.length) (by simp))
  have HP3 : Hid (Bx (w3.setCell ⟨w.heap.size + 1 + 1, 3, none⟩ (.slice (some ⟨W2.heap.size, 0, none⟩) ls.length ls.length)) w.heap.size [.int .i64 J, .slice A1 xs.length k1, .slice A2 ds.length k2, .slice A3 ls.length k3, .slice A4 fs.length k4, .slice A5 dr.length k5, .int .i64 tol]) := Lib.hid (hp.other (p := ⟨(w.heap.size + 1 + 1), 3, none⟩) (.slice (some ⟨W2.heap.size, 0, none⟩) ls.length ls.length) (by simp <;> omega))
  have HZ3 : Hid (Bx (w3.setCell ⟨w.heap.size + 1 + 1, 3, none⟩ (.slice (some ⟨W2.heap.size, 0, none⟩) ls.length ls.length)) (w.heap.size + 1) [.int .i64 0, .slice none 0 0, .slice none 0 0, .slice none 0 0, .slice none 0 0, .slice none 0 0, .int .i64 0]) := Lib.hid (hz.other (p := ⟨(w.heap.size + 1 + 1), 3, none⟩) (.slice (some ⟨W2.heap.size, 0, none⟩) ls.length ls.length) (by simp))
  have be3 : Below w.heap.size w (w3.setCell ⟨w.heap.size + 1 + 1, 3, none⟩ (.slice (some ⟨W2.heap.size, 0, none⟩) ls.length ls.length)) := (bw3.setCell (p := ⟨(w.heap.size + 1 + 1), 3, none⟩) (by simp <;> omega) (.slice (some ⟨W2.heap.size, 0, none⟩) ls.length ls.length))
  have hk3 : Kept ((w.heap.size + 1 + 1) + 1) w3 (w3.setCell ⟨w.heap.size + 1 + 1, 3, none⟩ (.slice (some ⟨W2.heap.size, 0, none⟩) ls.length ls.length)) := (Kept.refl _ _).setCell (p := ⟨(w.heap.size + 1 + 1), 3, none⟩) (by simp)
  have hsz3 : ((w3.setCell ⟨w.heap.size + 1 + 1, 3, none⟩ (.slice (some ⟨W2.heap.size, 0, none⟩) ls.length ls.length))).heap.size = w3.heap.size := by simp
  have szg3 : (w.heap.size + 1 + 1) < ((w3.setCell ⟨w.heap.size + 1 + 1, 3, none⟩ (.slice (some ⟨W2.heap.size, 0, none⟩) ls.length ls.length))).heap.size := by omega
  have HSZ3 := Lib.hid hsz3
  clear hsz3
  have HK3 := Lib.hid hk3
  have HW3 := Lib.hid o3
  clear hp ho hz hk3 o3 HP2 HO2 HZ2
  go_wp2_with fail
  generalize (w3.setCell ⟨w.heap.size + 1 + 1, 3, none⟩ (.slice (some ⟨W2.heap.size, 0, none⟩) ls.length ls.length)) = W3 at *
  clear p0 pf0 q0 qf0 p1 pf1 q1 qf1 p2 pf2 q2 qf2 p3 pf3 q3 qf3 p4 pf4 q4 qf4 p5 pf5 q5 qf5 p6 pf6 q6 qf6
  refine (C4.out _ be3).mono ?_
  rintro e w4 ⟨rfl, o4, hb4⟩
  have hz4 := hb4.size
  have bw4 : Below w.heap.size w w4 := be3.trans (hb4.mono be3.size)
  have hp := HP3.out.below hb4 (by omega)
  have ho := HO3.out.below hb4 (by omega)
  have hz := HZ3.out.below hb4 (by omega)
  obtain ⟨⟨p0, p1, p2, p3, p4, p5, p6⟩, ⟨pf0, pf1, pf2, pf3, pf4, pf5, pf6⟩⟩ := bx7 hp
  obtain ⟨⟨q0, q1, q2, q3, q4, q5, q6⟩, ⟨qf0, qf1, qf2, qf3, qf4, qf5, qf6⟩⟩ := bx7 ho
  have HO4 : Hid (Bx (w4.setCell ⟨w.heap.size + 1 + 1, 4, none⟩ (.slice (some ⟨W3.heap.size, 0, none⟩) fs.length fs.length)) (w.heap.size + 1 + 1) [.int .i64 J, .slice B1 xs.length m1, .slice (some ⟨W1.heap.size, 0, none⟩) ds.length ds.length, .slice (some ⟨W2.heap.size, 0, none⟩) ls.length ls.length, .slice (some ⟨W3.heap.size, 0, none⟩) fs.length fs.length, .slice none 0 0, .int .i64 0]) := Lib.hid (ho.set 4 (.slice (some ⟨W3.heap.size, 0, none⟩) fs.length fs.length) (by simp))
  have HP4 : Hid (Bx (w4.setCell ⟨w.heap.size + 1 + 1, 4, none⟩ (.slice (some ⟨W3.heap.size, 0, none⟩) fs.length fs.length)) w.heap.size [.int .i64 J, .slice A1 xs.length k1, .slice A2 ds.length k2, .slice A3 ls.length k3, .slice A4 fs.length k4, .slice A5 dr.length k5, .int .i64 tol]) := Lib.hid (hp.other (p := ⟨(w.heap.size + 1 + 1), 4, none⟩) (.slice (some ⟨W3.heap.size, 0, none⟩) fs.length fs.length) (by simp <;> omega))
  have HZ4 : Hid (Bx (w4.setCell ⟨w.heap.size + 1 + 1, 4, none⟩ (.slice (some ⟨W3.heap.size, 0, none⟩) fs.length fs.length)) (w.heap.size + 1) [.int .i64 0, .slice none 0 0, .slice none 0 0, .slice none 0 0, .slice none 0 0, .slice none 0 0, .int .i64 0]) := Lib.hid (hz.other (p := ⟨(w.heap.size + 1 + 1), 4, none⟩) (.slice (some ⟨W3.heap.size, 0, none⟩) fs.length fs.length) (by simp))
  have be4 : Below w.heap.size w (w4.setCell ⟨w.heap.size + 1 + 1, 4, none⟩ (.slice (some ⟨W3.heap.size, 0, none⟩) fs.length fs.length)) := (bw4.setCell (p := ⟨(w.heap.size + 1 + 1), 4, none⟩) (by simp <;> omega) (.slice (some ⟨W3.heap.size, 0, none⟩) fs.length fs.length))
  have hk4 : Kept ((w.heap.size + 1 + 1) + 1) w4 (w4.setCell ⟨w.heap.size + 1 + 1, 4, none⟩ (.slice (some ⟨W3.heap.size, 0, none⟩) fs.length fs.length)) := (Kept.refl _ _).setCell (p := ⟨(w.heap.size + 1 + 1), 4, none⟩) (by simp)
  have hsz4 : ((w4.setCell ⟨w.heap.size + 1 + 1, 4, none⟩ (.slice (some ⟨W3.heap.size, 0, none⟩) fs.length fs.length))).heap.size = w4.heap.size := by simp
  have szg4 : (w.heap.size + 1 + 1) < ((w4.setCell ⟨w.heap.size + 1 + 1, 4, none⟩ (.slice (some ⟨W3.heap.size, 0, none⟩) fs.length fs.length))).heap.size := by omega
  have HSZ4 := Lib.hid hsz4
  clear hsz4
  have HK4 := Lib.hid hk4
  have HW4 := Lib.hid o4
  clear hp ho hz hk4 o4 HP3 HO3 HZ3
  go_wp2_with fail
  generalize (w4.setCell ⟨w.heap.size + 1 + 1, 4, none⟩ (.slice (some ⟨W3.heap.size, 0, none⟩) fs.length fs.length)) = W4 at *
  clear p0 pf0 q0 qf0 p1 pf1 q1 qf1 p2 pf2 q2 qf2 p3 pf3 q3 qf3 p4 pf4 q4 qf4 p5 pf5 q5 qf5 p6 pf6 q6 qf6
  refine (C5.out _ be4).mono ?_
  rintro e w5 ⟨rfl, o5, hb5⟩
  have hz5 := hb5.size
  have bw5 : Below w.heap.size w w5 := be4.trans (hb5.mono be4.size)
  have hp := HP4.out.below hb5 (by omega)
  have ho := HO4.out.below hb5 (by omega)
  have hz := HZ4.out.below hb5 (by omega)
  obtain ⟨⟨p0, p1, p2, p3, p4, p5, p6⟩, ⟨pf0, pf1, pf2, pf3, pf4, pf5, pf6⟩⟩ := bx7 hp
  obtain ⟨⟨q0, q1, q2, q3, q4, q5, q6⟩, ⟨qf0, qf1, qf2, qf3, qf4, qf5, qf6⟩⟩ := bx7 ho
  have HO5 : Hid (Bx ((w5.setCell ⟨w.heap.size + 1 + 1, 5, none⟩ (.slice (some ⟨W4.heap.size, 0, none⟩) dr.length dr.length)).setCell ⟨w.heap.size + 1 + 1, 6, none⟩ (.int .i64 tol)) (w.heap.size + 1 + 1) [.int .i64 J, .slice B1 xs.length m1, .slice (some ⟨W1.heap.size, 0, none⟩) ds.length ds.length, .slice (some ⟨W2.heap.size, 0, none⟩) ls.length ls.length, .slice (some ⟨W3.heap.size, 0, none⟩) fs.length fs.length, .slice (some ⟨W4.heap.size, 0, none⟩) dr.length dr.length, .int .i64 tol]) := Lib.hid ((ho.set 5 (.slice (some ⟨W4.heap.size, 0, none⟩) dr.length dr.length) (by simp)).set 6 (.int .i64 tol) (by simp))
  have HP5 : Hid (Bx ((w5.setCell ⟨w.heap.size + 1 + 1, 5, none⟩ (.slice (some ⟨W4.heap.size, 0, none⟩) dr.length dr.length)).setCell ⟨w.heap.size + 1 + 1, 6, none⟩ (.int .i64 tol)) w.heap.size [.int .i64 J, .slice A1 xs.length k1, .slice A2 ds.length k2, .slice A3 ls.length k3, .slice A4 fs.length k4, .slice A5 dr.length k5, .int .i64 tol]) := Lib.hid ((hp.other (p := ⟨(w.heap.size + 1 + 1), 5, none⟩) (.slice (some ⟨W4.heap.size, 0, none⟩) dr.length dr.length) (by simp <;> omega)).other (p := ⟨(w.heap.size + 1 + 1), 6, none⟩) (.int .i64 tol) (by simp <;> omega))
  have HZ5 : Hid (Bx ((w5.setCell ⟨w.heap.size + 1 + 1, 5, none⟩ (.slice (some ⟨W4.heap.size, 0, none⟩) dr.length dr.length)).setCell ⟨w.heap.size + 1 + 1, 6, none⟩ (.int .i64 tol)) (w.heap.size + 1) [.int .i64 0, .slice none 0 0, .slice none 0 0, .slice none 0 0, .slice none 0 0, .slice none 0 0, .int .i64 0]) := Lib.hid ((hz.other (p := ⟨(w.heap.size + 1 + 1), 5, none⟩) (.slice (some ⟨W4.heap.size, 0, none⟩) dr.length dr.length) (by simp)).other (p := ⟨(w.heap.size + 1 + 1), 6, none⟩) (.int .i64 tol) (by simp))
  have be5 : Below w.heap.size w ((w5.setCell ⟨w.heap.size + 1 + 1, 5, none⟩ (.slice (some ⟨W4.heap.size, 0, none⟩) dr.length dr.length)).setCell ⟨w.heap.size + 1 + 1, 6, none⟩ (.int .i64 tol)) := ((bw5.setCell (p := ⟨(w.heap.size + 1 + 1), 5, none⟩) (by simp <;> omega) (.slice (some ⟨W4.heap.size, 0, none⟩) dr.length dr.length)).setCell (p := ⟨(w.heap.size + 1 + 1), 6, none⟩) (by simp <;> omega) (.int .i64 tol))
  have hk5 : Kept ((w.heap.size + 1 + 1) + 1) w5 ((w5.setCell ⟨w.heap.size + 1 + 1, 5, none⟩ (.slice (some ⟨W4.heap.size, 0, none⟩) dr.length dr.length)).setCell ⟨w.heap.size + 1 + 1, 6, none⟩ (.int .i64 tol)) := Kept.setCell ((Kept.refl _ _).setCell (p := ⟨(w.heap.size + 1 + 1), 5, none⟩) (by simp)) (p := ⟨(w.heap.size + 1 + 1), 6, none⟩) (by simp)
  have hsz5 : (((w5.setCell ⟨w.heap.size + 1 + 1, 5, none⟩ (.slice (some ⟨W4.heap.size, 0, none⟩) dr.length dr.length)).setCell ⟨w.heap.size + 1 + 1, 6, none⟩ (.int .i64 tol))).heap.size = w5.heap.size := by simp
  have szg5 : (w.heap.size + 1 + 1) < (((w5.setCell ⟨w.heap.size + 1 + 1, 5, none⟩ (.slice (some ⟨W4.heap.size, 0, none⟩) dr.length dr.length)).setCell ⟨w.heap.size + 1 + 1, 6, none⟩ (.int .i64 tol))).heap.size := by omega
  have HSZ5 := Lib.hid hsz5
  clear hsz5
  have HK5 := Lib.hid hk5
  have HW5 := Lib.hid o5
  obtain ⟨⟨z0, z1, z2, z3, z4, z5, z6⟩, ⟨zf0, zf1, zf2, zf3, zf4, zf5, zf6⟩⟩ := bx7 HZ5.out
  clear hp ho hz hk5 o5 HP4 HO4 HZ4
  go_wp2_with fail
  have hfz : Bx (((((((((w5.setCell ⟨w.heap.size + 1 + 1, 5, none⟩ (.slice (some ⟨W4.heap.size, 0, none⟩) dr.length dr.length)).setCell ⟨w.heap.size + 1 + 1, 6, none⟩ (.int .i64 tol)).setCell ⟨w.heap.size + 1, 0, none⟩ (.int .i64 J)).setCell ⟨w.heap.size + 1, 1, none⟩ (.slice B1 xs.length m1)).setCell ⟨w.heap.size + 1, 2, none⟩ (.slice (some ⟨W1.heap.size, 0, none⟩) ds.length ds.length)).setCell ⟨w.heap.size + 1, 3, none⟩ (.slice (some ⟨W2.heap.size, 0, none⟩) ls.length ls.length)).setCell ⟨w.heap.size + 1, 4, none⟩ (.slice (some ⟨W3.heap.size, 0, none⟩) fs.length fs.length)).setCell ⟨w.heap.size + 1, 5, none⟩ (.slice (some ⟨W4.heap.size, 0, none⟩) dr.length dr.length)).setCell ⟨w.heap.size + 1, 6, none⟩ (.int .i64 tol)) (w.heap.size + 1) [.int .i64 J, .slice B1 xs.length m1, .slice (some ⟨W1.heap.size, 0, none⟩) ds.length ds.length, .slice (some ⟨W2.heap.size, 0, none⟩) ls.length ls.length, .slice (some ⟨W3.heap.size, 0, none⟩) fs.length fs.length, .slice (some ⟨W4.heap.size, 0, none⟩) dr.length dr.length, .int .i64 tol] := (((((((HZ5.out.set 0 (.int .i64 J) (by simp)).set 1 (.slice B1 xs.length m1) (by simp)).set 2 (.slice (some ⟨W1.heap.size, 0, none⟩) ds.length ds.length) (by simp)).set 3 (.slice (some ⟨W2.heap.size, 0, none⟩) ls.length ls.length) (by simp)).set 4 (.slice (some ⟨W3.heap.size, 0, none⟩) fs.length fs.length) (by simp)).set 5 (.slice (some ⟨W4.heap.size, 0, none⟩) dr.length dr.length) (by simp)).set 6 (.int .i64 tol) (by simp))
  have hbf : Below w.heap.size w (((((((((w5.setCell ⟨w.heap.size + 1 + 1, 5, none⟩ (.slice (some ⟨W4.heap.size, 0, none⟩) dr.length dr.length)).setCell ⟨w.heap.size + 1 + 1, 6, none⟩ (.int .i64 tol)).setCell ⟨w.heap.size + 1, 0, none⟩ (.int .i64 J)).setCell ⟨w.heap.size + 1, 1, none⟩ (.slice B1 xs.length m1)).setCell ⟨w.heap.size + 1, 2, none⟩ (.slice (some ⟨W1.heap.size, 0, none⟩) ds.length ds.length)).setCell ⟨w.heap.size + 1, 3, none⟩ (.slice (some ⟨W2.heap.size, 0, none⟩) ls.length ls.length)).setCell ⟨w.heap.size + 1, 4, none⟩ (.slice (some ⟨W3.heap.size, 0, none⟩) fs.length fs.length)).setCell ⟨w.heap.size + 1, 5, none⟩ (.slice (some ⟨W4.heap.size, 0, none⟩) dr.length dr.length)).setCell ⟨w.heap.size + 1, 6, none⟩ (.int .i64 tol)) := (((((((be5.setCell (p := ⟨w.heap.size + 1, 0, none⟩) (by simp) (.int .i64 J)).setCell (p := ⟨w.heap.size + 1, 1, none⟩) (by simp) (.slice B1 xs.length m1)).setCell (p := ⟨w.heap.size + 1, 2, none⟩) (by simp) (.slice (some ⟨W1.heap.size, 0, none⟩) ds.length ds.length)).setCell (p := ⟨w.heap.size + 1, 3, none⟩) (by simp) (.slice (some ⟨W2.heap.size, 0, none⟩) ls.length ls.length)).setCell (p := ⟨w.heap.size + 1, 4, none⟩) (by simp) (.slice (some ⟨W3.heap.size, 0, none⟩) fs.length fs.length)).setCell (p := ⟨w.heap.size + 1, 5, none⟩) (by simp) (.slice (some ⟨W4.heap.size, 0, none⟩) dr.length dr.length)).setCell (p := ⟨w.heap.size + 1, 6, none⟩) (by simp) (.int .i64 tol))
  have hkf : Kept ((w.heap.size + 1 + 1) + 1) w5 (((((((((w5.setCell ⟨w.heap.size + 1 + 1, 5, none⟩ (.slice (some ⟨W4.heap.size, 0, none⟩) dr.length dr.length)).setCell ⟨w.heap.size + 1 + 1, 6, none⟩ (.int .i64 tol)).setCell ⟨w.heap.size + 1, 0, none⟩ (.int .i64 J)).setCell ⟨w.heap.size + 1, 1, none⟩ (.slice B1 xs.length m1)).setCell ⟨w.heap.size + 1, 2, none⟩ (.slice (some ⟨W1.heap.size, 0, none⟩) ds.length ds.length)).setCell ⟨w.heap.size + 1, 3, none⟩ (.slice (some ⟨W2.heap.size, 0, none⟩) ls.length ls.length)).setCell ⟨w.heap.size + 1, 4, none⟩ (.slice (some ⟨W3.heap.size, 0, none⟩) fs.length fs.length)).setCell ⟨w.heap.size + 1, 5, none⟩ (.slice (some ⟨W4.heap.size, 0, none⟩) dr.length dr.length)).setCell ⟨w.heap.size + 1, 6, none⟩ (.int .i64 tol)) := (Kept.setCell (Kept.setCell (Kept.setCell (Kept.setCell (Kept.setCell (Kept.setCell (Kept.setCell HK5.out (p := ⟨w.heap.size + 1, 0, none⟩) (v := .int .i64 J) (by simp)) (p := ⟨w.heap.size + 1, 1, none⟩) (v := (.slice B1 xs.length m1)) (by simp)) (p := ⟨w.heap.size + 1, 2, none⟩) (v := (.slice (some ⟨W1.heap.size, 0, none⟩) ds.length ds.length)) (by simp)) (p := ⟨w.heap.size + 1, 3, none⟩) (v := (.slice (some ⟨W2.heap.size, 0, none⟩) ls.length ls.length)) (by simp)) (p := ⟨w.heap.size + 1, 4, none⟩) (v := (.slice (some ⟨W3.heap.size, 0, none⟩) fs.length fs.length)) (by simp)) (p := ⟨w.heap.size + 1, 5, none⟩) (v := (.slice (some ⟨W4.heap.size, 0, none⟩) dr.length dr.length)) (by simp)) (p := ⟨w.heap.size + 1, 6, none⟩) (v := .int .i64 tol) (by simp))
  obtain ⟨⟨r0, r1, r2, r3, r4, r5, r6⟩, ⟨rf0, rf1, rf2, rf3, rf4, rf5, rf6⟩⟩ := bx7 hfz
  clear hfz
  generalize hFIN : (((((((((w5.setCell ⟨w.heap.size + 1 + 1, 5, none⟩ (.slice (some ⟨W4.heap.size, 0, none⟩) dr.length dr.length)).setCell ⟨w.heap.size + 1 + 1, 6, none⟩ (.int .i64 tol)).setCell ⟨w.heap.size + 1, 0, none⟩ (.int .i64 J)).setCell ⟨w.heap.size + 1, 1, none⟩ (.slice B1 xs.length m1)).setCell ⟨w.heap.size + 1, 2, none⟩ (.slice (some ⟨W1.heap.size, 0, none⟩) ds.length ds.length)).setCell ⟨w.heap.size + 1, 3, none⟩ (.slice (some ⟨W2.heap.size, 0, none⟩) ls.length ls.length)).setCell ⟨w.heap.size + 1, 4, none⟩ (.slice (some ⟨W3.heap.size, 0, none⟩) fs.length fs.length)).setCell ⟨w.heap.size + 1, 5, none⟩ (.slice (some ⟨W4.heap.size, 0, none⟩) dr.length dr.length)).setCell ⟨w.heap.size + 1, 6, none⟩ (.int .i64 tol)) = FIN at *
  have K4 := (HK4.out.below hb5).trans hkf
  have K3 := (HK3.out.below hb4).trans K4
  have K2 := (HK2.out.below hb3).trans K3
  have K1 := (HK1.out.below hb2).trans K2
  have R1 := OwnR.rows encA_len (own_kept HW1.out K1 (by omega))
  have R2 := OwnR.rows encDo_len (own_kept HW2.out K2 (by omega))
  have R3 := ((HW3.out.less (L' := (w.heap.size + 1 + 1) + 1) (by omega)).kept K3).nest
  have R4 := ((HW4.out.less (L' := (w.heap.size + 1 + 1) + 1) (by omega)).kept K4).fns
  have R5 := Own.ints (own_kept HW5.out hkf (by omega))
  exact bodyPost_ret (v := .agg #[.int .i64 J, .slice B1 xs.length m1, .slice (some ⟨W1.heap.size, 0, none⟩) ds.length ds.length, .slice (some ⟨W2.heap.size, 0, none⟩) ls.length ls.length, .slice (some ⟨W3.heap.size, 0, none⟩) fs.length fs.length, .slice (some ⟨W4.heap.size, 0, none⟩) dr.length dr.length, .int .i64 tol]) (by simp [results, Tryz.results25, go_sem, r0, r1, r2, r3, r4, r5, r6]) rfl ⟨_, rfl, ⟨_, _, _, _, _, _, _, _, _, _, rfl, R1, R2, R3, R4, R5⟩, (fun _ _ _ _ _ _ _ _ _ e => by simp only [Value.agg.injEq, Array.mk.injEq, List.cons.injEq, Value.slice.injEq] at e; omega), hbf⟩
/-- All that a plant's parts must be to be an argument. -/
structure PtFits (p : Pt) : Prop where
  xs : FitsA p.xs
  xl : p.xs.length ≤ maxLen
  ds : FitsDo p.ds
  dl : p.ds.length ≤ maxLen
  ll : p.ls.length ≤ maxLen
  ls : ∀ l ∈ p.ls, l.length ≤ maxLen ∧ Fits l
  fl : p.fs.length ≤ maxLen
  fs : FitsF p.fs
  rl : p.dr.length ≤ maxLen
  dr : Fits p.dr
  tol : -9223372036854775808 ≤ p.tol ∧ p.tol ≤ 9223372036854775807
  J : -9223372036854775808 ≤ p.J ∧ p.J ≤ 9223372036854775807
def szI (n : Nat) (left : Int) : Int := if (n : Int) ≤ left then left - n else -1
theorem szI_or (n : Nat) (left : Int) : szI n left = -1 ∨ (0 ≤ szI n left ∧ szI n left ≤ left ∧ (n : Int) ≤ left) := by unfold szI; split <;> omega
theorem szA_le (xs : List Aw) (left : Int) : szA xs left = -1 ∨ (0 ≤ szA xs left ∧ szA xs left ≤ left ∧ (xs.length : Int) ≤ left) := by
  have := idLen_nonneg xs xs.length
  unfold szA
  split <;> omega
def a1P (p : Pt) : Int := szA p.xs 1048576
def a2P (p : Pt) : Int := szDo p.ds (a1P p)
def a3P (p : Pt) : Int := szL p.ls (a2P p)
def a4P (p : Pt) : Int := szF p.fs (a3P p)
def a5P (p : Pt) : Int := szI p.dr.length (a4P p)
def szP (p : Pt) : Int := if a1P p < 0 then -1 else if a2P p < 0 then -1 else if a3P p < 0 then -1 else if a4P p < 0 then -1 else a5P p
theorem szP_or (p : Pt) : szP p < 0 ∨ PtLen p := by
  unfold szP
  by_cases h1 : a1P p < 0
  · rw [if_pos h1]; exact .inl (by decide)
  rw [if_neg h1]
  by_cases h2 : a2P p < 0
  · rw [if_pos h2]; exact .inl (by decide)
  rw [if_neg h2]
  by_cases h3 : a3P p < 0
  · rw [if_pos h3]; exact .inl (by decide)
  rw [if_neg h3]
  by_cases h4 : a4P p < 0
  · rw [if_pos h4]; exact .inl (by decide)
  rw [if_neg h4]
  by_cases h5 : a5P p < 0
  · exact .inl h5
  have e1 : a1P p = szA p.xs 1048576 := rfl
  have e2 : a2P p = szDo p.ds (a1P p) := rfl
  have e3 : a3P p = szL p.ls (a2P p) := rfl
  have e4 : a4P p = szF p.fs (a3P p) := rfl
  have e5 : a5P p = szI p.dr.length (a4P p) := rfl
  rw [e5] at h5; rw [e4] at h4; rw [e3] at h3; rw [e2] at h2; rw [e1] at h1
  rcases szA_le p.xs 1048576 with q | ⟨_, q1, q1'⟩
  · omega
  rw [← e1] at q1
  rcases szDo_or p.ds (a1P p) (by omega) with q | ⟨_, q2, q2'⟩
  · omega
  rw [← e2] at q2
  rcases szL_or p.ls (a2P p) with q | ⟨_, q3, q3', q3''⟩
  · omega
  rw [← e3] at q3
  rcases szF_or p.fs (a3P p) (by omega) (by omega) with q | ⟨_, q4, q4', q4''⟩
  · omega
  rw [← e4] at q4
  rcases szI_or p.dr.length (a4P p) with q | ⟨_, q5, q5'⟩
  · omega
  exact .inr ⟨by omega, by omega, by omega, fun l hl => by have := q3'' l hl; omega, by omega, q4'', by omega⟩
set_option maxRecDepth 100000 in
set_option maxHeartbeats 1600000 in
theorem szPlant_any (v : Value) (p : Pt) (w : World) (hf : PtFits p) (hI : PlantIs w.heap.size w v p) :
    Calls Tryz.prog 23 #[v, .int .i64 1048576] w fun e w' => e = .returned (.int .i64 (szP p)) ∧ Below w.heap.size w w' := by
  have Q1 := szA_le p.xs 1048576
  have Q2 : a1P p ≤ 1048576 → _ := fun h => szDo_or p.ds (a1P p) h
  have Q3 := szL_or p.ls (a2P p)
  have Q4 : a3P p ≤ 1048576 → 0 ≤ a3P p → _ := fun h h0 => szF_or p.fs (a3P p) h h0
  have Q5 := szI_or p.dr.length (a4P p)
  have HP : Hid (szP p = if a1P p < 0 then -1 else if a2P p < 0 then -1 else if a3P p < 0 then -1 else if a4P p < 0 then -1 else a5P p) := Lib.hid rfl
  obtain ⟨A1, k1, A2, k2, A3, k3, A4, k4, A5, k5, rfl, i1, i2, i3, i4, i5⟩ := hI
  have C1 := Lib.hid (fun W (hb : Below w.heap.size w W) => szMine_any p.J A1 k1 p.xs 1048576 w.heap.size W (by decide) (by decide) hf.xl hf.xs (i1.below hb) hb.size)
  have C2 : Hid (0 ≤ a1P p → a1P p ≤ 1048576 → ∀ W, Below w.heap.size w W → Calls Tryz.prog 48 #[.slice A2 p.ds.length k2, .int .i64 (a1P p)] W fun e w' => e = .returned (.int .i64 (a2P p)) ∧ Below W.heap.size W w') := Lib.hid (fun h h' W (hb : Below w.heap.size w W) => szDoorS_any A2 k2 p.ds (a1P p) w.heap.size W h h' hf.dl hf.ds (i2.below hb) hb.size)
  have C3 : Hid (0 ≤ a2P p → a2P p ≤ 1048576 → ∀ W, Below w.heap.size w W → Calls Tryz.prog 49 #[.slice A3 p.ls.length k3, .int .i64 (a2P p)] W fun e w' => e = .returned (.int .i64 (a3P p)) ∧ W = w') := Lib.hid (fun h h' W (hb : Below w.heap.size w W) => szInt64SS_any A3 k3 p.ls (a2P p) w.heap.size W h h' hf.ll (fun l hl => (hf.ls l hl).1) (i3.below hb))
  have C4 : Hid (0 ≤ a3P p → a3P p ≤ 1048576 → ∀ W, Below w.heap.size w W → Calls Tryz.prog 8 #[.slice A4 p.fs.length k4, .int .i64 (a3P p)] W fun e w' => e = .returned (.int .i64 (a4P p)) ∧ Below W.heap.size W w') := Lib.hid (fun h h' W (hb : Below w.heap.size w W) => szFanS_any A4 k4 p.fs (a3P p) w.heap.size W h h' hf.fl hf.fs (i4.below hb) hb.size)
  have C5 : Hid (0 ≤ a4P p → a4P p ≤ 1048576 → ∀ W, Calls Tryz.prog 50 #[.slice A5 p.dr.length k5, .int .i64 (a4P p)] W fun e w' => e = .returned (.int .i64 (a5P p)) ∧ W = w') := Lib.hid (fun h h' W => by
    by_cases hc : (p.dr.length : Int) ≤ a4P p
    · have e : a5P p = a4P p - p.dr.length := by unfold a5P szI; rw [if_pos hc]
      rw [e]; exact szInt64S_yes A5 k5 p.dr.length (a4P p) W h' hc
    · have e : a5P p = -1 := by unfold a5P szI; rw [if_neg hc]
      rw [e]; exact szInt64S_no A5 k5 p.dr.length (a4P p) W h h' hf.rl (by omega))
  obtain ⟨J, xs, ds, ls, fs, dr, tol⟩ := p
  clear i1 i2 i3 i4 i5 hf
  dsimp only at *
  rw [show szA xs 1048576 = a1P ⟨J, xs, ds, ls, fs, dr, tol⟩ from rfl] at Q1 C1
  rw [show szDo ds (a1P ⟨J, xs, ds, ls, fs, dr, tol⟩) = a2P ⟨J, xs, ds, ls, fs, dr, tol⟩ from rfl] at Q2
  rw [show szL ls (a2P ⟨J, xs, ds, ls, fs, dr, tol⟩) = a3P ⟨J, xs, ds, ls, fs, dr, tol⟩ from rfl] at Q3
  rw [show szF fs (a3P ⟨J, xs, ds, ls, fs, dr, tol⟩) = a4P ⟨J, xs, ds, ls, fs, dr, tol⟩ from rfl] at Q4
  rw [show szI dr.length (a4P ⟨J, xs, ds, ls, fs, dr, tol⟩) = a5P ⟨J, xs, ds, ls, fs, dr, tol⟩ from rfl] at Q5
  generalize a1P ⟨J, xs, ds, ls, fs, dr, tol⟩ = a1 at *
  generalize a2P ⟨J, xs, ds, ls, fs, dr, tol⟩ = a2 at *
  generalize a3P ⟨J, xs, ds, ls, fs, dr, tol⟩ = a3 at *
  generalize a4P ⟨J, xs, ds, ls, fs, dr, tol⟩ = a4 at *
  generalize a5P ⟨J, xs, ds, ls, fs, dr, tol⟩ = a5 at *
  generalize szP ⟨J, xs, ds, ls, fs, dr, tol⟩ = R at *
  have be0 : Below w.heap.size w (w.alloc (.cells #[.int .i64 J, .slice A1 xs.length k1, .slice A2 ds.length k2, .slice A3 ls.length k3, .slice A4 fs.length k4, .slice A5 dr.length k5, .int .i64 tol] 50)) := by go_grown
  have hbx : Bx (w.alloc (.cells #[.int .i64 J, .slice A1 xs.length k1, .slice A2 ds.length k2, .slice A3 ls.length k3, .slice A4 fs.length k4, .slice A5 dr.length k5, .int .i64 tol] 50)) w.heap.size [.int .i64 J, .slice A1 xs.length k1, .slice A2 ds.length k2, .slice A3 ls.length k3, .slice A4 fs.length k4, .slice A5 dr.length k5, .int .i64 tol] := bx7_of (by go_simp) (by go_simp) (by go_simp) (by go_simp) (by go_simp) (by go_simp) (by go_simp) (fun j => by go_simp)
  have szg0 : w.heap.size < ((w.alloc (.cells #[.int .i64 J, .slice A1 xs.length k1, .slice A2 ds.length k2, .slice A3 ls.length k3, .slice A4 fs.length k4, .slice A5 dr.length k5, .int .i64 tol] 50))).heap.size := by simp
  have HB0 := Lib.hid hbx
  clear hbx
  go_enter Tryz.func23, Tryz.ntmps23
  go_wp2_with fail
  generalize (w.alloc (.cells #[.int .i64 J, .slice A1 xs.length k1, .slice A2 ds.length k2, .slice A3 ls.length k3, .slice A4 fs.length k4, .slice A5 dr.length k5, .int .i64 tol] 50)) = w0 at *
  refine (C1.out _ be0).mono ?_
  rintro e w1 ⟨rfl, hb1⟩
  have HB1 := Lib.hid (HB0.out.below hb1 szg0)
  have be1 := be0.trans (hb1.mono be0.size)
  have szg1 : w.heap.size < w1.heap.size := Nat.lt_of_lt_of_le szg0 hb1.size
  have q1 := Q1
  obtain ⟨⟨p0, p1, p2, p3, p4, p5, p6⟩, ⟨pf0, pf1, pf2, pf3, pf4, pf5, pf6⟩⟩ := bx7 HB1.out
  by_cases h1 : a1 < 0
  · have e1 : R = -1 := by rw [HP.out]; rw [if_pos h1]
    clear p0 pf0 p1 pf1 p2 pf2 p3 pf3 p4 pf4 p5 pf5 p6 pf6
    go_wp2_with fail
    go_ret
    exact ⟨ret_int e1.symm, be1⟩
  go_wp2_with fail
  clear p0 pf0 p1 pf1 p2 pf2 p3 pf3 p4 pf4 p5 pf5 p6 pf6
  refine (C2.out (by omega) (by omega) _ be1).mono ?_
  rintro e w2 ⟨rfl, hb2⟩
  have HB2 := Lib.hid (HB1.out.below hb2 szg1)
  have be2 := be1.trans (hb2.mono be1.size)
  have szg2 : w.heap.size < w2.heap.size := Nat.lt_of_lt_of_le szg1 hb2.size
  have q2 := (Q2 (by omega))
  obtain ⟨⟨p0, p1, p2, p3, p4, p5, p6⟩, ⟨pf0, pf1, pf2, pf3, pf4, pf5, pf6⟩⟩ := bx7 HB2.out
  by_cases h2 : a2 < 0
  · have e2 : R = -1 := by rw [HP.out]; rw [if_neg (show ¬ a1 < 0 by omega)]; rw [if_pos h2]
    clear p0 pf0 p1 pf1 p2 pf2 p3 pf3 p4 pf4 p5 pf5 p6 pf6
    go_wp2_with fail
    go_ret
    exact ⟨ret_int e2.symm, be2⟩
  go_wp2_with fail
  clear p0 pf0 p1 pf1 p2 pf2 p3 pf3 p4 pf4 p5 pf5 p6 pf6
  refine (C3.out (by omega) (by omega) _ be2).mono ?_
  rintro e w3 ⟨rfl, rfl⟩
  have HB3 := HB2
  have be3 := be2
  have szg3 := szg2
  have q3 := Q3
  obtain ⟨⟨p0, p1, p2, p3, p4, p5, p6⟩, ⟨pf0, pf1, pf2, pf3, pf4, pf5, pf6⟩⟩ := bx7 HB3.out
  by_cases h3 : a3 < 0
  · have e3 : R = -1 := by rw [HP.out]; rw [if_neg (show ¬ a1 < 0 by omega)]; rw [if_neg (show ¬ a2 < 0 by omega)]; rw [if_pos h3]
    clear p0 pf0 p1 pf1 p2 pf2 p3 pf3 p4 pf4 p5 pf5 p6 pf6
    go_wp2_with fail
    go_ret
    exact ⟨ret_int e3.symm, be3⟩
  go_wp2_with fail
  clear p0 pf0 p1 pf1 p2 pf2 p3 pf3 p4 pf4 p5 pf5 p6 pf6
  refine (C4.out (by omega) (by omega) _ be3).mono ?_
  rintro e w4 ⟨rfl, hb4⟩
  have HB4 := Lib.hid (HB3.out.below hb4 szg3)
  have be4 := be3.trans (hb4.mono be3.size)
  have szg4 : w.heap.size < w4.heap.size := Nat.lt_of_lt_of_le szg3 hb4.size
  have q4 := (Q4 (by omega) (by omega))
  obtain ⟨⟨p0, p1, p2, p3, p4, p5, p6⟩, ⟨pf0, pf1, pf2, pf3, pf4, pf5, pf6⟩⟩ := bx7 HB4.out
  by_cases h4 : a4 < 0
  · have e4 : R = -1 := by rw [HP.out]; rw [if_neg (show ¬ a1 < 0 by omega)]; rw [if_neg (show ¬ a2 < 0 by omega)]; rw [if_neg (show ¬ a3 < 0 by omega)]; rw [if_pos h4]
    clear p0 pf0 p1 pf1 p2 pf2 p3 pf3 p4 pf4 p5 pf5 p6 pf6
    go_wp2_with fail
    go_ret
    exact ⟨ret_int e4.symm, be4⟩
  go_wp2_with fail
  clear p0 pf0 p1 pf1 p2 pf2 p3 pf3 p4 pf4 p5 pf5 p6 pf6
  refine (C5.out (by omega) (by omega) _).mono ?_
  rintro e w5 ⟨rfl, rfl⟩
  have HB5 := HB4
  have be5 := be4
  have szg5 := szg4
  have q5 := Q5
  have e5 : R = a5 := by rw [HP.out]; rw [if_neg (show ¬ a1 < 0 by omega)]; rw [if_neg (show ¬ a2 < 0 by omega)]; rw [if_neg (show ¬ a3 < 0 by omega)]; rw [if_neg (show ¬ a4 < 0 by omega)]
  by_cases h5 : a5 < 0
  · have e6 : a5 = -1 := by omega
    go_wp2_with fail
    go_ret
    exact ⟨ret_int (by rw [e5, e6]), be5⟩
  · go_wp2_with fail
    go_ret
    exact ⟨ret_int e5.symm, be5⟩
end Go.Proofs.YtejkoicgbgoiaaaGreat

/- More shapes of arguments: doors, fans, a plant. No conditions. -/
namespace Go.Proofs.YtejkoicgbgoiaaaGreat
open Go.ChangeShapes Go.WideShapes Go.ChangeAt Go.RowKit Go.Joins Go.Deep
section
variable {H : Type} {enc : TypeId × Value → H} {P : Program} {W : World}
/-- A slice of structs: each field's cell, its reading, and its places among all. -/
theorem open_slice_fields2 {t e : TypeId} {fs : Array Field} {fuel : Nat} {cs : List Value} {x : DataW H × List MemPlace} (ht : P.underlying t = some (.slice e)) (he : P.underlying e = some (.struct fs))
    (hone : oneCellFields P fs = true) (hC : P.cellsOf e = fs.size) (h : DataW.trod enc P W 0 (fun _ => true) true fuel t cs = some x) :
    (cs = [.slice none 0 0]) ∨
    ∃ (a : Addr) (len cap : Nat) (p : List MemPlace), cs = [.slice (some a) len cap] ∧ len ≤ cap ∧ cap ≤ maxLen ∧ x.2 = MemPlace.row a (cap * fs.size) ++ p ∧
      ∀ i, i < cap → ∀ (j : Nat) (f : Field), fs[j]? = some f → ∃ (v : Value) (y : DataW H × List MemPlace) (n : Nat), W.cell? (a.add (i * fs.size + j)) = some v ∧ DataW.trod enc P W 0 (fun _ => true) true n f.type [v] = some y ∧ ∀ q ∈ y.2, q ∈ x.2 := by
  rcases open_slice ht h with ⟨h0, _⟩ | ⟨a, len, cap, m, n, D, Pl, hcs, hb, hl, hm, hmm, hx, hi⟩
  · exact .inl h0
  · rw [if_pos rfl] at hmm
    subst hmm
    refine .inr ⟨a, len, m, (List.range m).flatMap Pl, hcs, hl, hm, by rw [hx, hC], fun i him j f hj => ?_⟩
    obtain ⟨cs', hc, ht'⟩ := hi i him
    rw [hC] at hc
    obtain ⟨ys, n', hn', hy, hlen, hyl, hf⟩ := DataW.trod_struct he ht'
    obtain ⟨_, hcl, hat⟩ := World.cells?_some hc
    obtain ⟨ho, hk⟩ := hone_of hone j f hj
    have hjl : j < fs.size := (Array.getElem?_eq_some_iff.1 hj).1
    have hcell := hat j hjl
    have hv : cs'[j]? = some (cs'[j]'(by omega)) := List.getElem?_eq_getElem (by omega)
    have h1 := hf j f hj
    rw [ho, hk] at h1
    have hone' : (cs'.drop j).take 1 = [cs'[j]'(by omega)] := by
      rw [List.drop_eq_getElem_cons (by omega)]
      rfl
    rw [hone'] at h1
    have hys : ys[j]? = some (ys[j]'(by omega)) := List.getElem?_eq_getElem (by omega)
    refine ⟨_, _, n', ?_, h1.trans hys, fun q hq => ?_⟩
    · rw [← Go.Deep.add_add, hcell, hv]
    · rw [hx]
      refine List.mem_append_right _ (List.mem_flatMap.2 ⟨i, List.mem_range.2 him, ?_⟩)
      have hp : Pl i = ys.flatMap (·.2) := by injection hy
      rw [hp]
      exact List.mem_flatMap.2 ⟨_, List.getElem_mem (show j < ys.length by omega), hq⟩
theorem open_ints_t {t e : TypeId} {fuel : Nat} {v : Value} {x : DataW H × List MemPlace} (ht : P.underlying t = some (.slice e)) (he : P.underlying e = some (.int .i64)) (hc : P.cellsOf e = 1)
    (h : DataW.trod enc P W 0 (fun _ => true) true fuel t [v] = some x) (hlt : ∀ p ∈ x.2, p.block < W.heap.size) :
    ∃ (A : Option Addr) (c : Nat) (xs : List Int), v = .slice A xs.length c ∧ Ints W.heap.size W A xs ∧ Fits xs ∧ xs.length ≤ maxLen := by
  rcases open_ints ht he hc h with ⟨hcs, _⟩ | ⟨a, len', cap', zs, hcs, _, hl, hm, hz, hx, hcell, hwz⟩
  · simp only [List.cons.injEq, and_true] at hcs
    subst hcs
    exact ⟨none, 0, [], rfl, Ints.nil, by simp [Fits], by simp⟩
  · simp only [List.cons.injEq, and_true] at hcs
    subst hcs
    rw [if_pos rfl] at hz
    have hlen : (zs.take len').length = len' := by rw [List.length_take]; omega
    subst hx
    refine ⟨some a, cap', zs.take len', by rw [hlen], ?_, fun x hx => bounds_i64 (hwz x (List.mem_of_mem_take hx)), by omega⟩
    intro hpos
    have hb : a.block < W.heap.size := hlt _ (row_head (n := zs.length) (by rw [List.length_take] at hpos; omega))
    refine ⟨a, rfl, hb, fun k hk => ?_⟩
    have hk' : k < zs.length := by rw [List.length_take] at hk; omega
    have := hcell k hk'
    rw [List.getElem_take, this]
    simp [List.getD, hk']
theorem open_intss_t {t e q : TypeId} {fuel : Nat} {v : Value} {x : DataW H × List MemPlace} (ht : P.underlying t = some (.slice e)) (he : P.underlying e = some (.slice q)) (hq : P.underlying q = some (.int .i64)) (ce : P.cellsOf e = 1) (cq : P.cellsOf q = 1)
    (h : DataW.trod enc P W 0 (fun _ => true) true fuel t [v] = some x) (hlt : ∀ p ∈ x.2, p.block < W.heap.size) :
    ∃ (A : Option Addr) (c : Nat) (xss : List (List Int)), v = .slice A xss.length c ∧ Nest W.heap.size W A xss ∧ (∀ l ∈ xss, l.length ≤ maxLen ∧ Fits l) ∧ xss.length ≤ maxLen := by
  rcases open_int_rows ht he hq ce cq h with ⟨hcs, _⟩ | ⟨a, len, cap, A, L, C, Z, hcs, _, hl, hm, hx, hr⟩
  · simp only [List.cons.injEq, and_true] at hcs
    subst hcs
    exact ⟨none, 0, [], rfl, Nest.nil, by simp, by simp⟩
  · simp only [List.cons.injEq, and_true] at hcs
    subst hcs
    have hps : x.2 = MemPlace.row a cap ++ (List.range cap).flatMap fun r => intRowPlaces (A r) (Z r) := congrArg Prod.snd hx
    have hrl : ∀ i, i < len → ((Z i).take (L i)).length = L i := fun i hi => by
      obtain ⟨_, h2, _, h4, _⟩ := hr i (by omega)
      rw [List.length_take]; omega
    let xss : List (List Int) := (List.range len).map fun i => (Z i).take (L i)
    have hxl : xss.length = len := by simp [xss]
    refine ⟨some a, cap, xss, by rw [hxl], ?_, ?_, by omega⟩
    · intro hpos
      rw [hxl] at hpos
      have hb : a.block < W.heap.size := by
        refine hlt (MemPlace.cell a.block a.off) ?_
        rw [hps]
        exact List.mem_append_left _ (row_head (by omega))
      have hs : a.spot = none := cell_spot (by have := (hr 0 (by omega)).1; rw [show a.add 0 = a by simp [Addr.add]] at this; exact this)
      have hrr := hr
      obtain ⟨b, o, s⟩ := a
      simp only at hs
      subst hs
      refine ⟨b, o, rfl, hb, fun k hk => ?_⟩
      rw [hxl] at hk
      obtain ⟨h1, h2, h3, h4, h5, h6, h7⟩ := hr k (by omega)
      have e : xss[k] = (Z k).take (L k) := by simp [xss]
      rw [e, hrl k hk]
      refine ⟨A k, C k, by rw [Addr.add_lit] at h1; exact h1, fun hp => ?_⟩
      rw [hrl k hk] at hp
      cases hA : A k with
      | none => have := h6 hA; omega
      | some a' =>
        obtain ⟨_, hc⟩ := h7 a' hA
        have hb' : a'.block < W.heap.size := by
          refine hlt (MemPlace.cell a'.block a'.off) ?_
          rw [hps]
          refine List.mem_append_right _ (List.mem_flatMap.2 ⟨k, List.mem_range.2 (by omega), ?_⟩)
          rw [hA]
          exact row_head (by omega)
        refine ⟨a', rfl, hb', fun j hj => ?_⟩
        rw [hrl k hk] at hj
        rw [hc j (by omega), List.getElem_take]
        simp [List.getD, show j < (Z k).length by omega]
    · intro xs hxs
      obtain ⟨i, hi, rfl⟩ := List.mem_map.1 hxs
      have hi := List.mem_range.1 hi
      obtain ⟨_, h2, h3, h4, h5, _⟩ := hr i (by omega)
      exact ⟨by rw [hrl i hi]; omega, fun x hx => bounds_i64 (h5 x (List.mem_of_mem_take hx))⟩
theorem open_doors_t {t e : TypeId} {f0 f1 f2 f3 : Field} {fuel : Nat} {v : Value} {x : DataW H × List MemPlace} (ht : P.underlying t = some (.slice e)) (he : P.underlying e = some (.struct #[f0, f1, f2, f3]))
    (g0 : P.underlying f0.type = some .string) (g1 : P.underlying f1.type = some (.int .i64)) (g2 : P.underlying f2.type = some (.int .i64)) (g3 : P.underlying f3.type = some (.int .i64))
    (hone : oneCellFields P #[f0, f1, f2, f3] = true) (hC : P.cellsOf e = 4) (h : DataW.trod enc P W 0 (fun _ => true) true fuel t [v] = some x) (hlt : ∀ p ∈ x.2, p.block < W.heap.size) :
    ∃ (A : Option Addr) (c : Nat) (xs : List Do), v = .slice A xs.length c ∧ Recs encDo 4 W.heap.size W A xs ∧ FitsDo xs ∧ xs.length ≤ maxLen := by
  rcases open_slice_fields2 ht he hone hC h with hcs | ⟨a, len, cap, p, hcs, hl, hm, hx, hi⟩
  · simp only [List.cons.injEq, and_true] at hcs
    subst hcs
    exact ⟨none, 0, [], rfl, Recs.nil, by simp [FitsDo], by simp⟩
  · simp only [List.cons.injEq, and_true] at hcs
    subst hcs
    have hz : ∀ i, i < len → ∃ z : Do, (∀ j u, (encDo z)[j]? = some u → W.cell? (a.add (i * 4 + j)) = some u) ∧ FitsDo [z] := by
      intro i hi'
      obtain ⟨v0, y0, n0, c0, t0, -⟩ := hi i (by omega) 0 f0 rfl
      obtain ⟨s, e0, _, b0⟩ := DataW.trod_string g0 t0
      simp only [List.cons.injEq, and_true] at e0
      subst e0
      obtain ⟨v1, y1, n1, c1, t1, -⟩ := hi i (by omega) 1 f1 rfl
      obtain ⟨z1, e1, _, b1⟩ := DataW.trod_int g1 t1
      simp only [List.cons.injEq, and_true] at e1
      subst e1
      obtain ⟨v2, y2, n2, c2, t2, -⟩ := hi i (by omega) 2 f2 rfl
      obtain ⟨z2, e2, _, b2⟩ := DataW.trod_int g2 t2
      simp only [List.cons.injEq, and_true] at e2
      subst e2
      obtain ⟨v3, y3, n3, c3, t3, -⟩ := hi i (by omega) 3 f3 rfl
      obtain ⟨z3, e3, _, b3⟩ := DataW.trod_int g3 t3
      simp only [List.cons.injEq, and_true] at e3
      subst e3
      refine ⟨⟨s, z1, z2, z3⟩, fun j u hu => ?_, ?_⟩
      · have hj4 : j < 4 := (List.getElem?_eq_some_iff.1 hu).1
        match j, hj4 with
        | 0, _ => rw [← hu]; exact c0
        | 1, _ => rw [← hu]; exact c1
        | 2, _ => rw [← hu]; exact c2
        | 3, _ => rw [← hu]; exact c3
      · intro x hx'
        obtain rfl := List.mem_singleton.1 hx'
        exact ⟨b0, bounds_i64 b1, bounds_i64 b2, bounds_i64 b3⟩
    let F : Nat → Do := fun i => if h : i < len then Classical.choose (hz i h) else nDo
    have hF : ∀ i, i < len → (∀ j u, (encDo (F i))[j]? = some u → W.cell? (a.add (i * 4 + j)) = some u) ∧ FitsDo [F i] := by
      intro i h1
      have e : F i = Classical.choose (hz i h1) := dif_pos h1
      rw [e]
      exact Classical.choose_spec (hz i h1)
    let xs : List Do := (List.range len).map F
    have hxl : xs.length = len := by simp [xs]
    refine ⟨some a, cap, xs, by rw [hxl], ?_, ?_, by omega⟩
    · intro hpos
      rw [hxl] at hpos
      have hb : a.block < W.heap.size := by
        refine hlt (MemPlace.cell a.block a.off) ?_
        rw [hx]
        exact List.mem_append_left _ (row_head (by show 0 < cap * 4; omega))
      have hs : a.spot = none := spot_none (by have := (hF 0 hpos).1 0 (.string (F 0).id) rfl; rw [show a.add (0 * 4 + 0) = a by simp [Addr.add]] at this; exact this)
      obtain ⟨b, o, s⟩ := a
      simp only at hs
      subst hs
      refine ⟨b, o, rfl, hb, fun k hk j u hu => ?_⟩
      rw [hxl] at hk
      have e : xs[k] = F k := by simp [xs]
      rw [e] at hu
      have hc := (hF k hk).1 j u hu
      rw [Addr.add_lit, ← Nat.add_assoc] at hc
      exact hc
    · intro x hx'
      obtain ⟨i, hi', rfl⟩ := List.mem_map.1 hx'
      exact (hF i (List.mem_range.1 hi')).2 _ (List.mem_singleton.2 rfl)
theorem open_fans_t {t e t2 e2 q : TypeId} {f0 f1 f2 : Field} {fuel : Nat} {v : Value} {x : DataW H × List MemPlace} (ht : P.underlying t = some (.slice e)) (he : P.underlying e = some (.struct #[f0, f1, f2]))
    (g0 : P.underlying f0.type = some .string) (g1 : P.underlying f1.type = some (.int .i64)) (h2t : f2.type = t2) (g2 : P.underlying t2 = some (.slice e2)) (g3 : P.underlying e2 = some (.slice q)) (g4 : P.underlying q = some (.int .i64)) (ce : P.cellsOf e2 = 1) (cq : P.cellsOf q = 1)
    (hone : oneCellFields P #[f0, f1, f2] = true) (hC : P.cellsOf e = 3) (h : DataW.trod enc P W 0 (fun _ => true) true fuel t [v] = some x) (hlt : ∀ p ∈ x.2, p.block < W.heap.size) :
    ∃ (A : Option Addr) (c : Nat) (xs : List Fa), v = .slice A xs.length c ∧ Fns W.heap.size W A xs ∧ FitsF xs ∧ xs.length ≤ maxLen := by
  subst h2t
  rcases open_slice_fields2 ht he hone hC h with hcs | ⟨a, len, cap, p, hcs, hl, hm, hx, hi⟩
  · simp only [List.cons.injEq, and_true] at hcs
    subst hcs
    exact ⟨none, 0, [], rfl, fun hn => by simp at hn, by simp [FitsF], by simp⟩
  · simp only [List.cons.injEq, and_true] at hcs
    subst hcs
    have hz : ∀ i, i < len → ∃ z : Fa, (W.cell? (a.add (i * 3)) = some (.string z.id) ∧ W.cell? (a.add (i * 3 + 1)) = some (.int .i64 z.aw) ∧ ∃ A' c, W.cell? (a.add (i * 3 + 2)) = some (.slice A' z.cv.length c) ∧ Nest W.heap.size W A' z.cv) ∧ FitsF [z] := by
      intro i hi'
      obtain ⟨v0, y0, n0, c0, t0, -⟩ := hi i (by omega) 0 f0 rfl
      obtain ⟨s, e0, _, b0⟩ := DataW.trod_string g0 t0
      simp only [List.cons.injEq, and_true] at e0
      subst e0
      obtain ⟨v1, y1, n1, c1, t1, -⟩ := hi i (by omega) 1 f1 rfl
      obtain ⟨z1, e1, _, b1⟩ := DataW.trod_int g1 t1
      simp only [List.cons.injEq, and_true] at e1
      subst e1
      obtain ⟨v2, y2, n2, c2, t2, hp2⟩ := hi i (by omega) 2 f2 rfl
      obtain ⟨A', c', xss, rfl, hI, hF, hL⟩ := open_intss_t g2 g3 g4 ce cq t2 (fun q hq => hlt q (hp2 q hq))
      refine ⟨⟨s, z1, xss⟩, ⟨c0, c1, A', c', c2, hI⟩, ?_⟩
      intro x hx'
      obtain rfl := List.mem_singleton.1 hx'
      exact ⟨b0, bounds_i64 b1, hL, hF⟩
    let F : Nat → Fa := fun i => if h : i < len then Classical.choose (hz i h) else nFa
    have hF : ∀ i, i < len → (W.cell? (a.add (i * 3)) = some (.string (F i).id) ∧ W.cell? (a.add (i * 3 + 1)) = some (.int .i64 (F i).aw) ∧ ∃ A' c, W.cell? (a.add (i * 3 + 2)) = some (.slice A' (F i).cv.length c) ∧ Nest W.heap.size W A' (F i).cv) ∧ FitsF [F i] := by
      intro i h1
      have e : F i = Classical.choose (hz i h1) := dif_pos h1
      rw [e]
      exact Classical.choose_spec (hz i h1)
    let xs : List Fa := (List.range len).map F
    have hxl : xs.length = len := by simp [xs]
    refine ⟨some a, cap, xs, by rw [hxl], ?_, ?_, by omega⟩
    · intro hpos
      rw [hxl] at hpos
      have hb : a.block < W.heap.size := by
        refine hlt (MemPlace.cell a.block a.off) ?_
        rw [hx]
        exact List.mem_append_left _ (row_head (by show 0 < cap * 3; omega))
      have hs : a.spot = none := spot_none (by have := (hF 0 hpos).1.1; rw [show a.add (0 * 3) = a by simp [Addr.add]] at this; exact this)
      obtain ⟨b, o, s⟩ := a
      simp only at hs
      subst hs
      refine ⟨b, o, rfl, hb, fun k hk => ?_⟩
      rw [hxl] at hk
      have e : xs.getD k nFa = F k := by simp [xs, List.getD, hk]
      rw [e]
      obtain ⟨⟨k0, k1, A', c, k2, hN⟩, _⟩ := hF k hk
      rw [Addr.add_lit] at k0 k1 k2
      rw [← Nat.add_assoc] at k1 k2
      exact ⟨k0, k1, A', c, k2, hN.low⟩
    · intro x hx'
      obtain ⟨i, hi', rfl⟩ := List.mem_map.1 hx'
      exact (hF i (List.mem_range.1 hi')).2 _ (List.mem_singleton.2 rfl)
theorem open_fans_at {t e t2 e2 q : TypeId} {f0 f1 f2 : Field} {r : Reach} {b0 : Nat} {v : Value} {d : DataW H} {ps : List MemPlace} (ht : P.underlying t = some (.slice e)) (he : P.underlying e = some (.struct #[f0, f1, f2]))
    (g0 : P.underlying f0.type = some .string) (g1 : P.underlying f1.type = some (.int .i64)) (h2t : f2.type = t2) (g2 : P.underlying t2 = some (.slice e2)) (g3 : P.underlying e2 = some (.slice q)) (g4 : P.underlying q = some (.int .i64)) (ce : P.cellsOf e2 = 1) (cq : P.cellsOf q = 1)
    (hone : oneCellFields P #[f0, f1, f2] = true) (hC : P.cellsOf e = 3) (hval : Value.okWide P W r b0 t v) (h : DataW.Trod enc P W 0 (fun _ => true) true t v d ps) (hlt : ∀ p ∈ ps, p.block < W.heap.size) :
    ∃ (A : Option Addr) (c : Nat) (xs : List Fa), v = .slice A xs.length c ∧ Fns W.heap.size W A xs ∧ FitsF xs ∧ xs.length ≤ maxLen := by
  obtain ⟨a0, len, cap, rfl⟩ := okWide_slice ht hval
  obtain ⟨fuel, hf⟩ := h
  exact open_fans_t ht he g0 g1 h2t g2 g3 g4 ce cq hone hC hf hlt
theorem open_plant {r : Reach} {b0 : Nat} {t tM tA eA tD eD tL eL q tF eF tR : TypeId} {f0 f1 f2 f3 f4 f5 m0 m1 a0 a1 a2 a3 a4 a5 a6 d0 d1 d2 d3 g0 g1 g2 : Field} {v : Value} {d : DataW H} {ps : List MemPlace}
    (hs : P.underlying t = some (.struct #[f0, f1, f2, f3, f4, f5])) (ho : f0.offset = 0 ∧ f1.offset = 2 ∧ f2.offset = 3 ∧ f3.offset = 4 ∧ f4.offset = 5 ∧ f5.offset = 6) (hk : P.cellsOf f0.type = 2 ∧ P.cellsOf f1.type = 1 ∧ P.cellsOf f2.type = 1 ∧ P.cellsOf f3.type = 1 ∧ P.cellsOf f4.type = 1 ∧ P.cellsOf f5.type = 1) (hC : P.cellsOf t = 7)
    (ht : f0.type = tM ∧ f1.type = tD ∧ f2.type = tL ∧ f3.type = tF ∧ f4.type = tR)
    (uM : P.underlying tM = some (.struct #[m0, m1])) (oM : oneCellFields P #[m0, m1] = true) (uJ : P.underlying m0.type = some (.int .i64)) (hA : m1.type = tA) (uA : P.underlying tA = some (.slice eA)) (ueA : P.underlying eA = some (.struct #[a0, a1, a2, a3, a4, a5, a6]))
    (k0 : P.underlying a0.type = some .string) (k1 : P.underlying a1.type = some (.int .i64)) (k2 : P.underlying a2.type = some (.int .i64)) (k3 : P.underlying a3.type = some (.int .i64)) (k4 : P.underlying a4.type = some (.int .i64)) (k5 : P.underlying a5.type = some (.int .i64)) (k6 : P.underlying a6.type = some (.int .i64)) (oA : oneCellFields P #[a0, a1, a2, a3, a4, a5, a6] = true) (cA : P.cellsOf eA = 7)
    (uD : P.underlying tD = some (.slice eD)) (ueD : P.underlying eD = some (.struct #[d0, d1, d2, d3])) (j0 : P.underlying d0.type = some .string) (j1 : P.underlying d1.type = some (.int .i64)) (j2 : P.underlying d2.type = some (.int .i64)) (j3 : P.underlying d3.type = some (.int .i64)) (oD : oneCellFields P #[d0, d1, d2, d3] = true) (cD : P.cellsOf eD = 4)
    (uL : P.underlying tL = some (.slice eL)) (ueL : P.underlying eL = some (.slice q)) (uq : P.underlying q = some (.int .i64)) (ce : P.cellsOf eL = 1) (cq : P.cellsOf q = 1)
    (uF : P.underlying tF = some (.slice eF)) (ueF : P.underlying eF = some (.struct #[g0, g1, g2])) (i0 : P.underlying g0.type = some .string) (i1 : P.underlying g1.type = some (.int .i64)) (i2 : g2.type = tL) (oF : oneCellFields P #[g0, g1, g2] = true) (cF : P.cellsOf eF = 3)
    (uR : P.underlying tR = some (.slice q)) (uT : P.underlying f5.type = some (.int .i64))
    (hv : Value.okWide P W r b0 t v) (h : DataW.Trod enc P W 0 (fun _ => true) true t v d ps) (hlt : ∀ p ∈ ps, p.block < W.heap.size) :
    ∃ p : Pt, PlantIs W.heap.size W v p ∧ PtFits p := by
  obtain ⟨cs, rfl, hsz⟩ := okWide_struct hs hv
  obtain ⟨fuel, hf⟩ := h
  obtain ⟨ys, n, hfu, hx, hcl, hyl, hat⟩ := DataW.trod_struct hs hf
  obtain ⟨rfl, rfl, rfl, rfl, rfl⟩ := ht
  obtain ⟨o0, o1, o2, o3, o4, o5⟩ := ho
  obtain ⟨c0, c1, c2, c3, c4, c5⟩ := hk
  have hcz : cs.toList.length = 7 := by rw [Array.length_toList]; exact hsz.trans hC
  have hcs : (Value.agg cs).cells.toList = cs.toList := rfl
  rw [hcs] at hat
  obtain ⟨l⟩ := cs
  simp only at hcz hat
  match l, hcz with
  | [v0, v1, v2, v3, v4, v5, v6], _ =>
  simp only [List.size_toArray] at hyl
  have hp : ∀ i (hi : i < ys.length), ∀ q ∈ (ys[i]).2, q.block < W.heap.size := fun i hi q hq => hlt q (by
    have hps : ps = ys.flatMap (·.2) := by injection hx
    rw [hps]
    exact List.mem_flatMap.2 ⟨_, List.getElem_mem hi, hq⟩)
  have hl6 : ys.length = 6 := hyl
  have e0 := hat 0 f0 rfl
  have e1 := hat 1 f1 rfl
  have e2 := hat 2 f2 rfl
  have e3 := hat 3 f3 rfl
  have e4 := hat 4 f4 rfl
  have e5 := hat 5 f5 rfl
  rw [List.getElem?_eq_getElem (by omega), o0, c0] at e0
  rw [List.getElem?_eq_getElem (by omega), o1, c1] at e1
  rw [List.getElem?_eq_getElem (by omega), o2, c2] at e2
  rw [List.getElem?_eq_getElem (by omega), o3, c3] at e3
  rw [List.getElem?_eq_getElem (by omega), o4, c4] at e4
  rw [List.getElem?_eq_getElem (by omega), o5, c5] at e5
  have h0 := hp 0 (by omega)
  have h1 := hp 1 (by omega)
  have h2 := hp 2 (by omega)
  have h3 := hp 3 (by omega)
  have h4 := hp 4 (by omega)
  obtain ⟨zs, n', hfu', hx', hcl', hyl', hat'⟩ := DataW.trod_struct uM e0
  have hz2 : zs.length = 2 := hyl'
  obtain ⟨om0, cm0⟩ := hone_of oM 0 m0 rfl
  obtain ⟨om1, cm1⟩ := hone_of oM 1 m1 rfl
  have w0 := hat' 0 m0 rfl
  have w1 := hat' 1 m1 rfl
  rw [List.getElem?_eq_getElem (by omega), om0, cm0] at w0
  rw [List.getElem?_eq_getElem (by omega), om1, cm1] at w1
  have hq1 : ∀ q ∈ (zs[1]'(by omega)).2, q.block < W.heap.size := fun q hq => h0 q (by
    have hps : (ys[0]'(by omega)).2 = zs.flatMap (·.2) := by rw [hx']
    rw [hps]
    exact List.mem_flatMap.2 ⟨_, List.getElem_mem (show 1 < zs.length by omega), hq⟩)
  obtain ⟨J, q0, _, bJ⟩ := DataW.trod_int uJ w0
  have q0 : v0 = .int .i64 J := by simpa using q0
  subst q0
  subst hA
  obtain ⟨A1, n1, xs, r1, I1, F1, L1⟩ := open_airways (v := v1) uA ueA k0 k1 k2 k3 k4 k5 k6 oA cA w1 hq1
  subst r1
  obtain ⟨A2, n2, ds, r2, I2, F2, L2⟩ := open_doors_t (v := v2) uD ueD j0 j1 j2 j3 oD cD e1 h1
  subst r2
  obtain ⟨A3, n3, ls, r3, I3, F3, L3⟩ := open_intss_t (v := v3) uL ueL uq ce cq e2 h2
  subst r3
  obtain ⟨A4, n4, fs, r4, I4, F4, L4⟩ := open_fans_t (v := v4) uF ueF i0 i1 i2 uL ueL uq ce cq oF cF e3 h3
  subst r4
  obtain ⟨A5, n5, dr, r5, I5, F5, L5⟩ := open_ints_t (v := v5) uR uq cq e4 h4
  subst r5
  obtain ⟨tol, q6, _, bT⟩ := DataW.trod_int uT e5
  have q6 : v6 = .int .i64 tol := by simpa using q6
  subst q6
  exact ⟨⟨J, xs, ds, ls, fs, dr, tol⟩, ⟨A1, n1, A2, n2, A3, n3, A4, n4, A5, n5, rfl, I1, I2, I3, I4, I5⟩, ⟨F1, L1, F2, L2, L3, F3, L4, F4, L5, F5, bounds_i64 bT, bounds_i64 bJ⟩⟩
end
end Go.Proofs.YtejkoicgbgoiaaaGreat

/- Copies of fans may be written: the laws' copies once more, with what lies there and that no byte of it is shared. Conditions: the lengths that each theorem names. Printed by gen_thaw.py. -/
namespace Go.Proofs.YtejkoicgbgoiaaaGreat
open Go.RowKit
open Pl
/-- From address A on lie n numbers that may be written, in a block from L on and below H. -/
def WInts (L H : Nat) (w : World) (A : Option Addr) (n : Nat) : Prop :=
  0 < n → ∃ g, A = some ⟨g, 0, none⟩ ∧ L ≤ g ∧ g < H ∧ ∀ j, j < n → (∃ y, w.cell? ⟨g, j, none⟩ = some (.int .i64 y)) ∧ w.frozen? ⟨g, j, none⟩ = false
def WNest (L H : Nat) (w : World) (A : Option Addr) (xss : List (List Int)) : Prop :=
  0 < xss.length → ∃ b o, A = some ⟨b, o, none⟩ ∧ L ≤ b ∧ b < H ∧ ∀ k (h : k < xss.length), ∃ A' c, w.cell? ⟨b, o + k, none⟩ = some (.slice A' xss[k].length c) ∧ WInts L H w A' xss[k].length
def WFan (L H : Nat) (w : World) (b o : Nat) (x : Fa) : Prop :=
  (∃ s, w.cell? ⟨b, o, none⟩ = some (.string s)) ∧ (∃ y, w.cell? ⟨b, o + 1, none⟩ = some (.int .i64 y)) ∧ w.frozen? ⟨b, o, none⟩ = false ∧ w.frozen? ⟨b, o + 1, none⟩ = false ∧ ∃ A' c, w.cell? ⟨b, o + 2, none⟩ = some (.slice A' x.cv.length c) ∧ WNest L H w A' x.cv
def WFans (L H : Nat) (w : World) (A : Option Addr) (xs : List Fa) : Prop :=
  0 < xs.length → ∃ b, A = some ⟨b, 0, none⟩ ∧ L ≤ b ∧ b < H ∧ ∀ k, k < xs.length → WFan L H w b (k * 3) (xs.getD k nFa)
theorem WInts.below {L H : Nat} {w w' : World} {A : Option Addr} {n : Nat} (h : WInts L H w A n) (hb : Below H w w') : WInts L H w' A n := by
  intro hn
  obtain ⟨g, e, h1, h2, hc⟩ := h hn
  refine ⟨g, e, h1, h2, fun j hj => ?_⟩
  obtain ⟨⟨y, k0⟩, k1⟩ := hc j hj
  exact ⟨⟨y, (hb.cell (p := ⟨g, j, none⟩) h2).trans k0⟩, (hb.frozen (p := ⟨g, j, none⟩) h2).trans k1⟩
theorem WInts.more {L L' H H' : Nat} {w : World} {A : Option Addr} {n : Nat} (h : WInts L H w A n) (hL : L' ≤ L) (hH : H ≤ H') : WInts L' H' w A n := by
  intro hn
  obtain ⟨g, e, h1, h2, hc⟩ := h hn
  exact ⟨g, e, by omega, by omega, hc⟩
theorem WInts.setCell {L H : Nat} {w : World} {A : Option Addr} {n : Nat} (h : WInts L H w A n) {p : Addr} {v : Value} (hp : p.block < L) : WInts L H (w.setCell p v) A n := by
  intro hn
  obtain ⟨g, e, h1, h2, hc⟩ := h hn
  refine ⟨g, e, h1, h2, fun j hj => ?_⟩
  obtain ⟨⟨y, k0⟩, k1⟩ := hc j hj
  refine ⟨⟨y, ?_⟩, (World.frozen?_setCell _ _ _ _).trans k1⟩
  rw [World.cell?_setCell_other _ _ _ _ (fun e' => by have := congrArg Addr.block e'; simp at this; omega)]
  exact k0
theorem WNest.below {L H : Nat} {w w' : World} {A : Option Addr} {xss : List (List Int)} (h : WNest L H w A xss) (hb : Below H w w') : WNest L H w' A xss := by
  intro hn
  obtain ⟨b, o, e, h1, h2, hc⟩ := h hn
  refine ⟨b, o, e, h1, h2, fun k hk => ?_⟩
  obtain ⟨A', c, k0, k1⟩ := hc k hk
  exact ⟨A', c, (hb.cell (p := ⟨b, o + k, none⟩) h2).trans k0, k1.below hb⟩
theorem WNest.more {L L' H H' : Nat} {w : World} {A : Option Addr} {xss : List (List Int)} (h : WNest L H w A xss) (hL : L' ≤ L) (hH : H ≤ H') : WNest L' H' w A xss := by
  intro hn
  obtain ⟨b, o, e, h1, h2, hc⟩ := h hn
  refine ⟨b, o, e, by omega, by omega, fun k hk => ?_⟩
  obtain ⟨A', c, k0, k1⟩ := hc k hk
  exact ⟨A', c, k0, k1.more hL hH⟩
theorem WNest.later {L : Nat} {w w' : World} {A : Option Addr} {xss : List (List Int)} (h : WNest L w.heap.size w A xss) (hb : Below w.heap.size w w') : WNest L w'.heap.size w' A xss := (h.below hb).more (Nat.le_refl _) hb.size
theorem WNest.setCell {L H : Nat} {w : World} {A : Option Addr} {xss : List (List Int)} (h : WNest L H w A xss) {p : Addr} {v : Value} (hp : p.block < L) : WNest L H (w.setCell p v) A xss := by
  intro hn
  obtain ⟨b, o, e, h1, h2, hc⟩ := h hn
  refine ⟨b, o, e, h1, h2, fun k hk => ?_⟩
  obtain ⟨A', c, k0, k1⟩ := hc k hk
  refine ⟨A', c, ?_, k1.setCell hp⟩
  rw [World.cell?_setCell_other _ _ _ _ (fun e' => by have := congrArg Addr.block e'; simp at this; omega)]
  exact k0
theorem WFan.below {L H : Nat} {w w' : World} {b o : Nat} {x : Fa} (h : WFan L H w b o x) (hlt : b < H) (hb : Below H w w') : WFan L H w' b o x := by
  obtain ⟨⟨s, k0⟩, ⟨y, k1⟩, f0, f1, A', c, k2, k3⟩ := h
  exact ⟨⟨s, (hb.cell (p := ⟨b, o, none⟩) hlt).trans k0⟩, ⟨y, (hb.cell (p := ⟨b, o + 1, none⟩) hlt).trans k1⟩, (hb.frozen (p := ⟨b, o, none⟩) hlt).trans f0, (hb.frozen (p := ⟨b, o + 1, none⟩) hlt).trans f1, A', c, (hb.cell (p := ⟨b, o + 2, none⟩) hlt).trans k2, k3.below hb⟩
theorem WFans.below {L H : Nat} {w w' : World} {A : Option Addr} {xs : List Fa} (h : WFans L H w A xs) (hb : Below H w w') : WFans L H w' A xs := by
  intro hn
  obtain ⟨b, e, h1, h2, hc⟩ := h hn
  exact ⟨b, e, h1, h2, fun k hk => (hc k hk).below h2 hb⟩
theorem Own.wints {base : Nat} {w : World} {A : Option Addr} {n c : Nat} {xs : List Int} (h : Own base w (.slice A n c) xs) (hl : xs.length = n) : WInts base w.heap.size w A n := by
  intro hn
  rcases h.form with ⟨he, hx⟩ | ⟨g, c', he, _, _⟩
  · subst hx; simp at hl; omega
  · injection he with e1 e2 e3
    subst e1 e3 hl
    obtain ⟨b0, b1⟩ := World.ownsRow.lt h g rfl
    refine ⟨g, rfl, b0, b1, fun j hj => ⟨⟨xs[j], ?_⟩, World.ownsRow.frozenAt h j⟩⟩
    exact (World.ownsRow.cellAt h j (by omega)).trans (vals_get (by omega))
/-- The lists that have been copied so far; they may be written. -/
def CopiedW (g : Nat) (w : World) (zs : List Value) (xss : List (List Int)) (k : Nat) : Prop :=
  ∀ j (h : j < xss.length), j < k → ∃ A' c, zs[j]? = some (.slice A' xss[j].length c) ∧ Ints w.heap.size w A' xss[j] ∧ (∀ ad, A' = some ad → g < ad.block) ∧ WInts (g + 1) w.heap.size w A' xss[j].length
set_option maxRecDepth 100000 in
theorem toInt64SS_w (A : Option Addr) (c : Nat) (xss : List (List Int)) (B : Nat) (w : World) (hn : xss.length ≤ 1048576) (hl : ∀ xs ∈ xss, xs.length ≤ 1048576) (hI : Nest B w A xss) (hB : B ≤ w.heap.size) :
    Calls Tryz.prog 54 #[.slice A xss.length c] w fun e w' => e = .returned (.slice (some ⟨w.heap.size, 0, none⟩) xss.length xss.length) ∧ NestL w.heap.size w'.heap.size w' (some ⟨w.heap.size, 0, none⟩) xss ∧ WNest w.heap.size w'.heap.size w' (some ⟨w.heap.size, 0, none⟩) xss ∧ Below w.heap.size w w' := by
  obtain ⟨i0, hi, hz0, hz1, hz2⟩ := info_parts infoII
  have hbb : i0.bytes * xss.length ≤ 281474976710656 := by rw [hz2]; omega
  have hmx : xss.length ≤ maxLen := le_max (by omega)
  have J := Lib.hid (hI.more hB)
  have HL := Lib.hid hl
  clear hI hl
  go_enter Tryz.func54, Tryz.ntmps54
  go_wp2_with (at_make; refine wpList_make_full _ rfl (.tmp 6) (.tmp 6) 48 rfl w.heap.size 25 i0 (.slice none 0 0) 1 Tryz.underlying48 hi hz0 hz1 .i64 .i64 (xss.length : Int) (xss.length : Int) xss.length rfl rfl rfl rfl hbb hmx (Nat.le_refl _) ?_; intro w1 hown hgr)
  have hbe : Below w.heap.size w w1 := (Below.refl _ _).grown hgr (Nat.le_refl _) (fun k hk => by cases hk)
  have HO : ∃ zs : List Value, zs.length = xss.length ∧ (∀ z ∈ zs, z.oneCell' = true) ∧ w1.ownsRow w.heap.size 25 1 (.slice (some ⟨w.heap.size, 0, none⟩) xss.length xss.length) xss.length zs := by
    have e : (madeCells (Value.slice none 0 0).cells (xss.length * 1)).toList = List.replicate xss.length (Value.slice none 0 0) := by
      rw [Nat.mul_one]; exact toList_madeCells_one _ _
    rw [e] at hown
    exact ⟨_, by simp, fun z hz => by rw [List.eq_of_mem_replicate hz]; rfl, hown⟩
  clear hown hgr hbb hmx hi hz0 hz1 hz2
  have HH := Lib.hid HO
  clear HO
  go_wp2
  go_loopw [4] (fun i wr => ∃ k : Nat, k ≤ xss.length ∧ i = .int .i64 k ∧ Below w.heap.size w wr ∧ w.heap.size < wr.heap.size ∧ ∃ zs : List Value, zs.length = xss.length ∧ CopiedW w.heap.size wr zs xss k ∧ wr.ownsRow w.heap.size 25 1 (.slice (some ⟨w.heap.size, 0, none⟩) xss.length xss.length) xss.length zs) (fun i _ => xss.length - (intOf i).toNat)
  case atStart =>
    obtain ⟨zs, h1, h2, h3⟩ := HH.out
    exact ⟨0, Nat.zero_le _, rfl, hbe, (World.ownsRow.lt h3 _ rfl).2, zs, h1, fun j _ hj => by omega, h3⟩
  case round =>
    obtain ⟨k, hk, rfl, hb, hlt2, zs, hz, ht, ho⟩ := hrel
    by_cases hlt : k < xss.length
    · obtain ⟨b, o, rfl, hab, A', c', hc, hI'⟩ := (J.out.below hb).at_ hlt
      have HT := Lib.hid ht
      have HZ := Lib.hid hz
      have HO := Lib.hid ho
      have HC := Lib.hid (toInt64S_any A' c' xss[k] w.heap.size wr (HL.out _ (List.getElem_mem hlt)) hI' hb.size)
      have i0 : (0 : Int) ≤ (k : Int) := by omega
      have i1 : (k : Int) < xss.length := by omega
      clear hI' ht hz ho
      generalize hx : xss[k] = xs at *
      have HX := Lib.hid hx
      clear hx
      go_wp2_with fail
      refine HC.out.mono ?_
      rintro e w2 ⟨rfl, ho2, hb2⟩
      have hown2 := HO.out
      have hbw : Below w.heap.size w w2 := hb.trans (hb2.mono hb.size)
      have hz2 : wr.heap.size ≤ w2.heap.size := hb2.size
      have hO2 : w2.ownsRow w.heap.size 25 1 (.slice (some ⟨w.heap.size, 0, none⟩) xss.length xss.length) xss.length zs := by
        refine ⟨hown2.1, ?_⟩
        rcases hown2.2 with hn' | ⟨g, cap, cur, e1, e2, e3, rest⟩
        · exact .inl hn'
        · refine .inr ⟨g, cap, cur, e1, e2, (hb2.block g ?_).trans e3, rest⟩
          have := (World.ownsRow.lt hown2 g (by rw [e1]; rfl)).2
          exact this
      have hfz : w2.frozen? ⟨w.heap.size, k, none⟩ = false := World.ownsRow.frozenAt hO2 k
      obtain ⟨y, hold⟩ : ∃ y, w2.cell? ⟨w.heap.size, k, none⟩ = some y := by
        have := World.ownsRow.cellAt hO2 k (by omega)
        rw [List.getElem?_eq_getElem (by rw [HZ.out]; exact hlt)] at this
        exact ⟨_, this⟩
      have HO2 := Lib.hid hO2
      have HI2 := Lib.hid ho2.ints
      have HW2 := Lib.hid (ho2.wints rfl)
      clear hO2 ho2 hown2
      go_wp2_with fail
      go_roundw
      case rel =>
        obtain ⟨h1, h2⟩ := World.ownsRow.stored HO2.out k (.slice (some ⟨wr.heap.size, 0, none⟩) xs.length xs.length)
        refine ⟨k + 1, by omega, by go_num, hbw.setCell (by simp) _, by simp; omega, _, by rw [List.length_set]; exact HZ.out, ?_, h1⟩
        intro j hj hj2
        by_cases e : j = k
        · subst e
          refine ⟨some ⟨wr.heap.size, 0, none⟩, xs.length, by rw [List.getElem?_set_self (by rw [HZ.out]; exact hlt), HX.out], ?_, fun ad h => by cases h; exact hlt2, ?_⟩
          rotate_left
          · rw [HX.out]
            exact (HW2.out.more (by omega) (by simp)).setCell (by simp)
          rw [HX.out]
          exact Ints.setCell (by simpa using HI2.out) (fun ad h => by cases h; simp; omega)
        · obtain ⟨A1, c1, g1, g2, g3, g5⟩ := HT.out j hj (by omega)
          refine ⟨A1, c1, by rw [List.getElem?_set_ne (Ne.symm e)]; exact g1, ?_, g3, ((g5.below hb2).more (Nat.le_refl _) (by simpa using hz2)).setCell (by simp)⟩
          have g4 : Ints w2.heap.size w2 A1 xss[j] := (g2.below hb2).more hz2
          exact Ints.setCell (by simpa using g4) (fun ad h => by have := g3 ad h; simp; omega)
      case measure => simp [intOf]; omega
    · obtain rfl : k = xss.length := by omega
      have HT := Lib.hid ht
      have HO := Lib.hid ho
      clear ho hz ht
      go_wp2
      go_ret
      refine ⟨rfl, fun _ => ⟨w.heap.size, 0, rfl, Nat.le_refl _, hlt2, fun k hk => ?_⟩, fun _ => ⟨w.heap.size, 0, rfl, Nat.le_refl _, hlt2, fun k hk => ?_⟩, hb⟩
      rotate_left
      · obtain ⟨A', c', g1, g2, g3, g5⟩ := HT.out k hk hk
        refine ⟨A', c', ?_, g5.more (by omega) (Nat.le_refl _)⟩
        rw [Nat.zero_add, World.ownsRow.cellAt HO.out k (by omega)]
        exact g1
      obtain ⟨A', c', g1, g2, g3, -⟩ := HT.out k hk hk
      refine ⟨A', c', ?_, g2, fun ad ha => by have := g3 ad ha; omega⟩
      rw [Nat.zero_add, World.ownsRow.cellAt HO.out k (by omega)]
      exact g1
set_option maxHeartbeats 1600000 in
theorem toFan_w (s : ByteArray) (a : Int) (A : Option Addr) (c : Nat) (cv : List (List Int)) (B : Nat) (w : World) (hn : cv.length ≤ 1048576) (hl : ∀ xs ∈ cv, xs.length ≤ 1048576) (hI : Nest B w A cv) (hB : B ≤ w.heap.size) :
    Calls Tryz.prog 38 #[.agg #[.string s, .int .i64 a, .slice A cv.length c]] w fun e w' => ∃ A' c', e = .returned (.agg #[.string s, .int .i64 a, .slice A' cv.length c']) ∧ NestL w.heap.size w'.heap.size w' A' cv ∧ WNest w.heap.size w'.heap.size w' A' cv ∧ Below w.heap.size w w' := by
  have J0 := Lib.hid (hI.more hB)
  have HLn := Lib.hid hl
  clear hI hl
  have hb0 : Below w.heap.size w (((w.alloc (.cells #[.string s, .int .i64 a, .slice A cv.length c] 70)).alloc (.cells #[.string ⟨#[]⟩, .int .i64 0, .slice none 0 0] 74)).alloc (.cells #[.string s, .int .i64 a, .slice none 0 0] 74)) := by go_grown
  have HB := Lib.hid hb0
  clear hb0
  go_enter Tryz.func38, Tryz.ntmps38
  go_wp2_with fail
  refine (toInt64SS_w A c cv w.heap.size _ hn HLn.out (J0.out.below HB.out) (by simp <;> omega)).mono ?_
  rintro e w1 ⟨rfl, ho, hwn, hb1⟩
  obtain ⟨hc1, hf1⟩ := bcell hb1
  have hz : w.heap.size + 1 + 1 < w1.heap.size := by have := hb1.size; simp at this; omega
  have hbe := HB.out.trans (hb1.mono (by simp <;> omega))
  have HO := Lib.hid ho
  have HWN := Lib.hid hwn
  have q1 : w.heap.size + 1 < ((((w.alloc (.cells #[.string s, .int .i64 a, .slice A cv.length c] 70)).alloc (.cells #[.string ⟨#[]⟩, .int .i64 0, .slice none 0 0] 74)).alloc (.cells #[.string s, .int .i64 a, .slice none 0 0] 74))).heap.size := by simp
  have q2 : w.heap.size + 1 + 1 < ((((w.alloc (.cells #[.string s, .int .i64 a, .slice A cv.length c] 70)).alloc (.cells #[.string ⟨#[]⟩, .int .i64 0, .slice none 0 0] 74)).alloc (.cells #[.string s, .int .i64 a, .slice none 0 0] 74))).heap.size := by simp
  have d0 : w1.cell? ⟨w.heap.size + 1 + 1, 0, none⟩ = some (.string s) := by rw [hc1 _ _ q2]; go_simp
  have d1 : w1.cell? ⟨w.heap.size + 1 + 1, 1, none⟩ = some (.int .i64 a) := by rw [hc1 _ _ q2]; go_simp
  have d2 : w1.cell? ⟨w.heap.size + 1 + 1, 2, none⟩ = some (.slice none 0 0) := by rw [hc1 _ _ q2]; go_simp
  have d3 : w1.cell? ⟨w.heap.size + 1, 0, none⟩ = some (.string ⟨#[]⟩) := by rw [hc1 _ _ q1]; go_simp
  have d4 : w1.cell? ⟨w.heap.size + 1, 1, none⟩ = some (.int .i64 0) := by rw [hc1 _ _ q1]; go_simp
  have d5 : w1.cell? ⟨w.heap.size + 1, 2, none⟩ = some (.slice none 0 0) := by rw [hc1 _ _ q1]; go_simp
  have f2 : w1.frozen? ⟨w.heap.size + 1 + 1, 2, none⟩ = false := by rw [hf1 _ _ q2]; go_simp
  have f3 : w1.frozen? ⟨w.heap.size + 1, 0, none⟩ = false := by rw [hf1 _ _ q1]; go_simp
  have f4 : w1.frozen? ⟨w.heap.size + 1, 1, none⟩ = false := by rw [hf1 _ _ q1]; go_simp
  have f5 : w1.frozen? ⟨w.heap.size + 1, 2, none⟩ = false := by rw [hf1 _ _ q1]; go_simp
  clear hc1 hf1 hb1 ho hwn q1 q2
  go_wp2_with fail
  have t3 := (World.cell?_setCell_other w1 ⟨w.heap.size + 1 + 1, 2, none⟩ ⟨w.heap.size + 1, 0, none⟩ (.slice (some ⟨w.heap.size + 1 + 1 + 1, 0, none⟩) cv.length cv.length) (by simp)).trans d3
  have t4 := (World.cell?_setCell_other w1 ⟨w.heap.size + 1 + 1, 2, none⟩ ⟨w.heap.size + 1, 1, none⟩ (.slice (some ⟨w.heap.size + 1 + 1 + 1, 0, none⟩) cv.length cv.length) (by simp)).trans d4
  have t5 := (World.cell?_setCell_other w1 ⟨w.heap.size + 1 + 1, 2, none⟩ ⟨w.heap.size + 1, 2, none⟩ (.slice (some ⟨w.heap.size + 1 + 1 + 1, 0, none⟩) cv.length cv.length) (by simp)).trans d5
  obtain ⟨r0, r1, r2⟩ := put3 (.string s) (.int .i64 a) (.slice (some ⟨w.heap.size + 1 + 1 + 1, 0, none⟩) cv.length cv.length) t3 t4 t5
  refine bodyPost_ret (v := .agg #[.string s, .int .i64 a, (.slice (some ⟨w.heap.size + 1 + 1 + 1, 0, none⟩) cv.length cv.length)]) (by simp [results, Tryz.results38, go_sem, r0, r1, r2]) rfl ⟨_, _, rfl, ?_, ?_, (((hbe.setCell (by simp <;> omega) _).setCell (by simp) _).setCell (by simp) _).setCell (by simp) _⟩
  · have h := HO.out
    have hs : ((((w.alloc (.cells #[.string s, .int .i64 a, .slice A cv.length c] 70)).alloc (.cells #[.string ⟨#[]⟩, .int .i64 0, .slice none 0 0] 74)).alloc (.cells #[.string s, .int .i64 a, .slice none 0 0] 74))).heap.size = w.heap.size + 1 + 1 + 1 := by simp
    rw [hs] at h
    have h4 := (((h.setCell (p := ⟨w.heap.size + 1 + 1, 2, none⟩) (v := (.slice (some ⟨w.heap.size + 1 + 1 + 1, 0, none⟩) cv.length cv.length)) (by simp)).setCell (p := ⟨w.heap.size + 1, 0, none⟩) (v := .string s) (by simp <;> omega)).setCell (p := ⟨w.heap.size + 1, 1, none⟩) (v := .int .i64 a) (by simp <;> omega)).setCell (p := ⟨w.heap.size + 1, 2, none⟩) (v := (.slice (some ⟨w.heap.size + 1 + 1 + 1, 0, none⟩) cv.length cv.length)) (by simp <;> omega)
    simpa using h4.less (by omega)
  · have h := HWN.out
    have hs : ((((w.alloc (.cells #[.string s, .int .i64 a, .slice A cv.length c] 70)).alloc (.cells #[.string ⟨#[]⟩, .int .i64 0, .slice none 0 0] 74)).alloc (.cells #[.string s, .int .i64 a, .slice none 0 0] 74))).heap.size = w.heap.size + 1 + 1 + 1 := by simp
    rw [hs] at h
    have h4 := (((h.setCell (p := ⟨w.heap.size + 1 + 1, 2, none⟩) (v := (.slice (some ⟨w.heap.size + 1 + 1 + 1, 0, none⟩) cv.length cv.length)) (by simp)).setCell (p := ⟨w.heap.size + 1, 0, none⟩) (v := .string s) (by simp <;> omega)).setCell (p := ⟨w.heap.size + 1, 1, none⟩) (v := .int .i64 a) (by simp <;> omega)).setCell (p := ⟨w.heap.size + 1, 2, none⟩) (v := (.slice (some ⟨w.heap.size + 1 + 1 + 1, 0, none⟩) cv.length cv.length)) (by simp <;> omega)
    simpa using h4.more (L' := w.heap.size) (by omega) (Nat.le_refl _)
/-- The fans that have been copied so far: cells zs of the row in block g. -/
def CopiedFW (g : Nat) (w : World) (zs : List Value) (xs : List Fa) (k : Nat) : Prop :=
  ∀ j, j < k → zs[j * 3]? = some (.string (xs.getD j nFa).id) ∧ zs[j * 3 + 1]? = some (.int .i64 (xs.getD j nFa).aw) ∧ ∃ A' c, zs[j * 3 + 2]? = some (.slice A' (xs.getD j nFa).cv.length c) ∧ NestL (g + 1) w.heap.size w A' (xs.getD j nFa).cv ∧ WNest (g + 1) w.heap.size w A' (xs.getD j nFa).cv
set_option maxRecDepth 100000 in
set_option maxHeartbeats 1600000 in
theorem toFanS_w (A : Option Addr) (c : Nat) (xs : List Fa) (B : Nat) (w : World) (hn : xs.length ≤ 1048576) (hl : FansLen xs) (hI : Fns B w A xs) (hB : B ≤ w.heap.size) :
    Calls Tryz.prog 12 #[.slice A xs.length c] w fun e w' => e = .returned (.slice (some ⟨w.heap.size, 0, none⟩) xs.length xs.length) ∧ (FnsL w.heap.size w'.heap.size w' (some ⟨w.heap.size, 0, none⟩) xs ∧ WFans w.heap.size w'.heap.size w' (some ⟨w.heap.size, 0, none⟩) xs) ∧ Below w.heap.size w w' := by
  obtain ⟨i0, hi, hz0, hz1, hz2⟩ := info_parts infoFa
  have hbb : i0.bytes * xs.length ≤ 281474976710656 := by rw [hz2]; omega
  have hmx : xs.length ≤ maxLen := le_max (by omega)
  have J := Lib.hid (hI.more hB)
  have HL := Lib.hid hl
  clear hI hl
  go_enter Tryz.func12, Tryz.ntmps12
  go_wp2_with (at_make; refine wpList_make_full _ rfl (.tmp 6) (.tmp 6) 36 rfl w.heap.size 74 i0 (.agg #[.string ByteArray.empty, .int .i64 0, .slice none 0 0]) 3 Tryz.underlying36 hi hz0 hz1 .i64 .i64 (xs.length : Int) (xs.length : Int) xs.length rfl rfl rfl rfl hbb hmx (Nat.le_refl _) ?_; intro w1 hown hgr)
  have hbe : Below w.heap.size w w1 := (Below.refl _ _).grown hgr (Nat.le_refl _) (fun k hk => by cases hk)
  have HO : ∃ zs : List Value, zs.length = xs.length * 3 ∧ w1.ownsRow w.heap.size 74 3 (.slice (some ⟨w.heap.size, 0, none⟩) xs.length xs.length) xs.length zs := ⟨_, by simp [madeCells], hown⟩
  clear hown hgr hbb hmx hi hz0 hz1 hz2
  have HH := Lib.hid HO
  clear HO
  go_wp2
  go_loopw [4] (fun i wr => ∃ k : Nat, k ≤ xs.length ∧ i = .int .i64 k ∧ Below w.heap.size w wr ∧ w.heap.size < wr.heap.size ∧ ∃ zs : List Value, zs.length = xs.length * 3 ∧ CopiedFW w.heap.size wr zs xs k ∧ wr.ownsRow w.heap.size 74 3 (.slice (some ⟨w.heap.size, 0, none⟩) xs.length xs.length) xs.length zs) (fun i _ => xs.length - (intOf i).toNat)
  case atStart =>
    obtain ⟨zs, h1, h3⟩ := HH.out
    exact ⟨0, Nat.zero_le _, rfl, hbe, (World.ownsRow.lt h3 _ rfl).2, zs, h1, fun j hj => by omega, h3⟩
  case round =>
    obtain ⟨k, hk, rfl, hb, hlt2, zs, hz, ht, ho⟩ := hrel
    by_cases hlt : k < xs.length
    · obtain ⟨⟨s, a, cv⟩, hx⟩ : ∃ x, xs.getD k nFa = x := ⟨_, rfl⟩
      obtain ⟨b, o, A', c', rfl, hab, c0, c1, c2, hI'⟩ := (J.out.below hb).at_ hlt hx
      have hll : cv.length ≤ 1048576 ∧ ∀ l ∈ cv, l.length ≤ 1048576 := by
        have := HL.out _ (List.getElem_mem hlt)
        rw [← getD_fa hlt, hx] at this
        exact this
      have HT := Lib.hid ht
      have HZ := Lib.hid hz
      have HO := Lib.hid ho
      have HX := Lib.hid hx
      have HC := Lib.hid (toFan_w s a A' c' cv w.heap.size wr hll.1 hll.2 hI' hb.size)
      have j0 : (0 : Int) ≤ (k : Int) := by omega
      have j1 : (k : Int) < xs.length := by omega
      clear ho hz ht hx hI' hll
      go_wp2_with fail
      refine HC.out.mono ?_
      rintro e w2 ⟨A2, c2', rfl, ho2, hw2, hb2⟩
      have hown2 := HO.out
      have hbw : Below w.heap.size w w2 := hb.trans (hb2.mono hb.size)
      have hO2 : w2.ownsRow w.heap.size 74 3 (.slice (some ⟨w.heap.size, 0, none⟩) xs.length xs.length) xs.length zs := by
        refine ⟨hown2.1, ?_⟩
        rcases hown2.2 with hn' | ⟨g, cap, cur, e1, e2, e3, rest⟩
        · exact .inl hn'
        · refine .inr ⟨g, cap, cur, e1, e2, (hb2.block g ?_).trans e3, rest⟩
          have := (World.ownsRow.lt hown2 g (by rw [e1]; rfl)).2
          exact this
      have hz2 : w.heap.size < w2.heap.size := by have := hb2.size; omega
      have hzl := HZ.out
      have q0 := World.ownsRow.cellAt hO2 (k * 3) (by omega)
      have q1 := World.ownsRow.cellAt hO2 (k * 3 + 1) (by omega)
      have q2 := World.ownsRow.cellAt hO2 (k * 3 + 2) (by omega)
      rw [List.getElem?_eq_getElem (by omega)] at q0 q1 q2
      have f0 := World.ownsRow.frozenAt hO2 (k * 3)
      have f1 := World.ownsRow.frozenAt hO2 (k * 3 + 1)
      have f2 := World.ownsRow.frozenAt hO2 (k * 3 + 2)
      generalize zs[k * 3]'(by omega) = y0 at *
      generalize zs[k * 3 + 1]'(by omega) = y1 at *
      generalize zs[k * 3 + 2]'(by omega) = y2 at *
      have HO2 := Lib.hid hO2
      have HI2 := Lib.hid ho2
      have HW2 := Lib.hid hw2
      clear hO2 ho2 hw2 hown2 hzl c0 c1 c2
      go_wp2_with fail
      go_roundw
      case rel =>
        obtain ⟨r0, _⟩ := World.ownsRow.stored HO2.out (k * 3) (.string s)
        obtain ⟨r1, _⟩ := World.ownsRow.stored r0 (k * 3 + 1) (.int .i64 a)
        obtain ⟨r2, _⟩ := World.ownsRow.stored r1 (k * 3 + 2) (.slice A2 cv.length c2')
        have keep : ∀ {A3 : Option Addr} {ys : List (List Int)}, NestL (w.heap.size + 1) w2.heap.size w2 A3 ys → NestL (w.heap.size + 1) (((w2.setCell ⟨w.heap.size, k * 3, none⟩ (.string s)).setCell ⟨w.heap.size, k * 3 + 1, none⟩ (.int .i64 a)).setCell ⟨w.heap.size, k * 3 + 2, none⟩ (.slice A2 cv.length c2')).heap.size (((w2.setCell ⟨w.heap.size, k * 3, none⟩ (.string s)).setCell ⟨w.heap.size, k * 3 + 1, none⟩ (.int .i64 a)).setCell ⟨w.heap.size, k * 3 + 2, none⟩ (.slice A2 cv.length c2')) A3 ys := fun h => by
          have := ((h.setCell (p := ⟨w.heap.size, k * 3, none⟩) (v := .string s) (by simp)).setCell (p := ⟨w.heap.size, k * 3 + 1, none⟩) (v := .int .i64 a) (by simp)).setCell (p := ⟨w.heap.size, k * 3 + 2, none⟩) (v := .slice A2 cv.length c2') (by simp)
          simpa using this
        have keepW : ∀ {A3 : Option Addr} {ys : List (List Int)}, WNest (w.heap.size + 1) w2.heap.size w2 A3 ys → WNest (w.heap.size + 1) (((w2.setCell ⟨w.heap.size, k * 3, none⟩ (.string s)).setCell ⟨w.heap.size, k * 3 + 1, none⟩ (.int .i64 a)).setCell ⟨w.heap.size, k * 3 + 2, none⟩ (.slice A2 cv.length c2')).heap.size (((w2.setCell ⟨w.heap.size, k * 3, none⟩ (.string s)).setCell ⟨w.heap.size, k * 3 + 1, none⟩ (.int .i64 a)).setCell ⟨w.heap.size, k * 3 + 2, none⟩ (.slice A2 cv.length c2')) A3 ys := fun h => by
          have := ((h.setCell (p := ⟨w.heap.size, k * 3, none⟩) (v := .string s) (by simp)).setCell (p := ⟨w.heap.size, k * 3 + 1, none⟩) (v := .int .i64 a) (by simp)).setCell (p := ⟨w.heap.size, k * 3 + 2, none⟩) (v := .slice A2 cv.length c2') (by simp)
          simpa using this
        have hzl := HZ.out
        refine ⟨k + 1, by omega, by go_num, ((hbw.setCell (by simp) _).setCell (by simp) _).setCell (by simp) _, by simpa using hz2, _, by simpa using hzl, ?_, r2⟩
        intro j hj
        by_cases e : j = k
        · subst e
          rw [HX.out]
          refine ⟨?_, ?_, A2, c2', ?_, keep (HI2.out.less (by omega)), keepW (HW2.out.more (by omega) (Nat.le_refl _))⟩
          · rw [List.getElem?_set_ne (by omega), List.getElem?_set_ne (by omega), List.getElem?_set_self (by omega)]
          · rw [List.getElem?_set_ne (by omega), List.getElem?_set_self (by rw [List.length_set]; omega)]
          · rw [List.getElem?_set_self (by rw [List.length_set, List.length_set]; omega)]
        · obtain ⟨g0, g1, A1, c1', g2, g3, g4⟩ := HT.out j (by omega)
          refine ⟨?_, ?_, A1, c1', ?_, keep (g3.later hb2), keepW (g4.later hb2)⟩
          · rw [List.getElem?_set_ne (by omega), List.getElem?_set_ne (by omega), List.getElem?_set_ne (by omega)]; exact g0
          · rw [List.getElem?_set_ne (by omega), List.getElem?_set_ne (by omega), List.getElem?_set_ne (by omega)]; exact g1
          · rw [List.getElem?_set_ne (by omega), List.getElem?_set_ne (by omega), List.getElem?_set_ne (by omega)]; exact g2
      case measure => simp [intOf]; omega
    · obtain rfl : k = xs.length := by omega
      have HT := Lib.hid ht
      have HO := Lib.hid ho
      have HZ := Lib.hid hz
      clear ho hz ht
      go_wp2
      go_ret
      refine ⟨rfl, ⟨fun _ => ⟨w.heap.size, 0, rfl, Nat.le_refl _, hlt2, fun k hk => ?_⟩, fun _ => ⟨w.heap.size, rfl, Nat.le_refl _, hlt2, fun k hk => ?_⟩⟩, hb⟩
      · obtain ⟨g0, g1, A1, c1', g2, g3, -⟩ := HT.out k hk
        rw [Nat.zero_add]
        exact ⟨(World.ownsRow.cellAt HO.out (k * 3) (by omega)).trans g0, (World.ownsRow.cellAt HO.out (k * 3 + 1) (by omega)).trans g1, A1, c1', (World.ownsRow.cellAt HO.out (k * 3 + 2) (by omega)).trans g2, g3.less (by omega)⟩
      · obtain ⟨g0, g1, A1, c1', g2, -, g4⟩ := HT.out k hk
        exact ⟨⟨_, (World.ownsRow.cellAt HO.out (k * 3) (by omega)).trans g0⟩, ⟨_, (World.ownsRow.cellAt HO.out (k * 3 + 1) (by omega)).trans g1⟩, World.ownsRow.frozenAt HO.out (k * 3), World.ownsRow.frozenAt HO.out (k * 3 + 1), A1, c1', (World.ownsRow.cellAt HO.out (k * 3 + 2) (by omega)).trans g2, g4.more (by omega) (Nat.le_refl _)⟩
end Go.Proofs.YtejkoicgbgoiaaaGreat
