/- Lists of structs of plain cells: what such a list is in memory; a row of the call's own. No conditions. -/
import Derived.Test.YtmfbdngibbkciaaList
import Derived.Test.YtmfbdngibbkciaaRes
import Derived.Test.YtmfbdngibbkciaaDust
namespace Go.Proofs.Ytmfbdngibbkciaa
open Go.RowKit
open Pl
section
variable {α : Type}
/-- 'Recs enc s B w A xs': from address A on lie the cells of the structs xs, s cells each, in a block below B. -/
def Recs (enc : α → List Value) (s : Nat) (B : Nat) (w : World) (A : Option Addr) (xs : List α) : Prop :=
  0 < xs.length → ∃ b o, A = some ⟨b, o, none⟩ ∧ b < B ∧ ∀ k (h : k < xs.length) j u, (enc xs[k])[j]? = some u → w.cell? ⟨b, o + k * s + j, none⟩ = some u
variable {enc : α → List Value} {s B : Nat} {w w' : World} {A : Option Addr} {xs : List α}
theorem Recs.nil : Recs enc s B w A [] := fun h => by simp at h
theorem Recs.below (h : Recs enc s B w A xs) (hb : Below B w w') : Recs enc s B w' A xs := by
  intro hn
  obtain ⟨b, o, e, hlt, hc⟩ := h hn
  exact ⟨b, o, e, hlt, fun k hk j u hu => (hb.cell (p := ⟨b, o + k * s + j, none⟩) hlt).trans (hc k hk j u hu)⟩
theorem Recs.more {B' : Nat} (h : Recs enc s B w A xs) (hB : B ≤ B') : Recs enc s B' w A xs := by
  intro hn
  obtain ⟨b, o, e, hlt, hc⟩ := h hn
  exact ⟨b, o, e, by omega, hc⟩
theorem Recs.at_ (h : Recs enc s B w A xs) {k : Nat} (hk : k < xs.length) : ∃ b o, A = some ⟨b, o, none⟩ ∧ b < B ∧ ∀ j u, (enc xs[k])[j]? = some u → w.cell? ⟨b, o + k * s + j, none⟩ = some u := by
  obtain ⟨b, o, e, hb, hc⟩ := h (by omega)
  exact ⟨b, o, e, hb, hc k hk⟩
theorem Recs.none_nil (h : Recs enc s B w none xs) : xs = [] := by
  cases xs with
  | nil => rfl
  | cons x xs => obtain ⟨b, o, e, _⟩ := h (by simp); cases e

theorem flat_length (he : ∀ x, (enc x).length = s) : ∀ xs : List α, (xs.flatMap enc).length = xs.length * s
  | [] => by simp
  | x :: xs => by rw [List.flatMap_cons, List.length_append, he, flat_length he xs, List.length_cons, Nat.add_mul]; omega
theorem flat_get (he : ∀ x, (enc x).length = s) : ∀ (xs : List α) (k j : Nat) (hk : k < xs.length), j < s → (xs.flatMap enc)[k * s + j]? = (enc xs[k])[j]?
  | x :: xs, 0, j, _, hj => by
    rw [List.flatMap_cons, Nat.zero_mul, Nat.zero_add, List.getElem?_append_left (by rw [he]; exact hj)]; rfl
  | x :: xs, k + 1, j, hk, hj => by
    rw [List.flatMap_cons, List.getElem?_append_right (by rw [he, Nat.add_mul]; omega), he, show (k + 1) * s + j - s = k * s + j by rw [Nat.add_mul]; omega]
    exact flat_get he xs k j (by simpa using hk) hj
/-- A row of the call's own. -/
def OwnR (T : TypeId) (enc : α → List Value) (s : Nat) (base : Nat) (w : World) (v : Value) (xs : List α) : Prop := w.ownsRow base T s v xs.length (xs.flatMap enc)
variable {T : TypeId} {base : Nat} {v : Value}
theorem OwnR.nil_ (base : Nat) (w : World) : OwnR T enc s base w (.slice none 0 0) ([] : List α) := World.ownsRow_nil _ _ _ _
theorem OwnR.form (h : OwnR T enc s base w v xs) :
    (v = .slice none 0 0 ∧ xs = []) ∨ ∃ g c, v = .slice (some ⟨g, 0, none⟩) xs.length c ∧ base ≤ g ∧ g < w.heap.size := by
  rcases h.2 with ⟨rfl, h0⟩ | ⟨g, cap, cur, hv, hb, hg, _⟩
  · exact .inl ⟨rfl, List.eq_nil_of_length_eq_zero h0⟩
  · exact .inr ⟨g, cap, hv, hb, (Array.getElem?_eq_some_iff.1 hg).1⟩
theorem OwnR.slice (he : ∀ x, (enc x).length = s) (h : OwnR T enc s base w v xs) : ∃ A c, v = .slice A xs.length c ∧ Recs enc s w.heap.size w A xs ∧ (∀ ad, A = some ad → ad = ⟨ad.block, 0, none⟩ ∧ base ≤ ad.block ∧ ad.block < w.heap.size) := by
  rcases h.form with ⟨rfl, rfl⟩ | ⟨g, c, rfl, hb, hlt⟩
  · exact ⟨none, 0, rfl, Recs.nil, fun ad h => by cases h⟩
  · refine ⟨some ⟨g, 0, none⟩, c, rfl, fun _ => ⟨_, _, rfl, hlt, fun k hk j u hu => ?_⟩, fun ad h => by cases h; exact ⟨rfl, hb, hlt⟩⟩
    obtain ⟨hj, _⟩ := List.getElem?_eq_some_iff.1 hu
    rw [he] at hj
    have := World.ownsRow.cells h rfl (k * s + j) u (by rw [flat_get he xs k j hk hj]; exact hu)
    rw [Addr.add_lit] at this
    rw [Nat.add_assoc]
    exact this
theorem OwnR.rows (he : ∀ x, (enc x).length = s) {n c : Nat} (h : OwnR T enc s base w (.slice A n c) xs) : Recs enc s w.heap.size w A xs := by
  obtain ⟨A', c', e, hi, _⟩ := h.slice he
  injection e with h1 h2 h3
  subst h1
  exact hi
theorem OwnR.below {B : Nat} (h : OwnR T enc s base w v xs) (hb : Below B w w') (hB : ∀ g, v.ownBlock = some g → g < B) : OwnR T enc s base w' v xs := by
  refine ⟨h.1, ?_⟩
  rcases h.2 with hn | ⟨g, cap, cur, rfl, h1, h2, rest⟩
  · exact .inl hn
  · exact .inr ⟨g, cap, cur, rfl, h1, (hb.block g (hB g rfl)).trans h2, rest⟩
theorem OwnR.later (h : OwnR T enc s base w v xs) (hb : Below w.heap.size w w') : OwnR T enc s base w' v xs :=
  h.below hb (fun g hg => (World.ownsRow.lt h g hg).2)
end

/-! ### Tasks that make dust: four numbers -/
abbrev Dg := Int × Int × Int × Int
def encD (d : Dg) : List Value := [.int .i64 d.1, .int .i64 d.2.1, .int .i64 d.2.2.1, .int .i64 d.2.2.2]
theorem encD_len (d : Dg) : (encD d).length = 4 := rfl
theorem infoD : (Try.prog.info? 75).map (fun i => (i.zero, i.size, i.bytes)) = some (some (.agg #[.int .i64 0, .int .i64 0, .int .i64 0, .int .i64 0]), 4, 32) := by kernel_rfl
theorem Recs.cells4 {B : Nat} {w : World} {A : Option Addr} {xs : List Dg} (h : Recs encD 4 B w A xs) {k : Nat} (hk : k < xs.length) : ∃ b o, A = some ⟨b, o, none⟩ ∧ b < B ∧ w.cell? ⟨b, o + k * 4, none⟩ = some (.int .i64 xs[k].1) ∧ w.cell? ⟨b, o + k * 4 + 1, none⟩ = some (.int .i64 xs[k].2.1) ∧ w.cell? ⟨b, o + k * 4 + 2, none⟩ = some (.int .i64 xs[k].2.2.1) ∧ w.cell? ⟨b, o + k * 4 + 3, none⟩ = some (.int .i64 xs[k].2.2.2) := by
  obtain ⟨b, o, e, hb, hc⟩ := h.at_ hk
  exact ⟨b, o, e, hb, hc 0 _ rfl, hc 1 _ rfl, hc 2 _ rfl, hc 3 _ rfl⟩
theorem flatD_set (a b c d : Int) : ∀ (zs : List Dg) (k : Nat), k < zs.length → (((((zs.flatMap encD).set (k * 4) (.int .i64 a)).set (k * 4 + 1) (.int .i64 b)).set (k * 4 + 2) (.int .i64 c)).set (k * 4 + 3) (.int .i64 d)) = (zs.set k (a, b, c, d)).flatMap encD
  | z :: zs, 0, _ => by simp [encD]
  | z :: zs, k + 1, h => by
    have ih := flatD_set a b c d zs k (by simpa using h)
    rw [show (k + 1) * 4 = k * 4 + 4 by omega]
    simp only [List.flatMap_cons, List.set_cons_succ, encD, List.cons_append, List.nil_append]
    have e := congrArg (fun l => Value.int .i64 z.1 :: Value.int .i64 z.2.1 :: Value.int .i64 z.2.2.1 :: Value.int .i64 z.2.2.2 :: l) ih
    exact e
theorem madeD (n : Nat) : (madeCells #[.int .i64 0, .int .i64 0, .int .i64 0, .int .i64 0] (n * 4)).toList = (List.replicate n ((0, 0, 0, 0) : Dg)).flatMap encD := by
  unfold madeCells
  rw [Array.toList_map, Array.toList_range]
  induction n with
  | zero => rfl
  | succ n ih =>
    rw [show (n + 1) * 4 = n * 4 + 1 + 1 + 1 + 1 by omega, List.range_succ, List.range_succ, List.range_succ, List.range_succ, List.replicate_succ', List.flatMap_append]
    simp only [List.map_append, List.append_assoc]
    rw [ih]
    congr 1
    simp [encD, Nat.add_mod]
theorem flatD_cell {zs : List Dg} {k j : Nat} (hk : k < zs.length) (hj : j < 4) : ∃ y, (zs.flatMap encD)[k * 4 + j]? = some (.int .i64 y) := by
  rw [flat_get encD_len zs k j hk hj]
  match j, hj with
  | 0, _ => exact ⟨_, rfl⟩
  | 1, _ => exact ⟨_, rfl⟩
  | 2, _ => exact ⟨_, rfl⟩
  | 3, _ => exact ⟨_, rfl⟩
theorem take_set_succ' {α : Type} {zs xs : List α} {k : Nat} (hz : zs.length = xs.length) (hk : k < xs.length) (h : zs.take k = xs.take k) : (zs.set k xs[k]).take (k + 1) = xs.take (k + 1) := by
  apply List.ext_getElem?
  intro j
  rw [List.getElem?_take, List.getElem?_take]
  split
  · by_cases e : j = k
    · subst e; rw [List.getElem?_set_self (by omega), List.getElem?_eq_getElem hk]
    · rw [List.getElem?_set_ne (Ne.symm e)]
      have := congrArg (·[j]?) h
      simp only [List.getElem?_take] at this
      rw [if_pos (by omega), if_pos (by omega)] at this
      exact this
  · rfl
theorem take_all_eq' {α : Type} {zs xs : List α} (hz : zs.length = xs.length) (h : zs.take xs.length = xs.take xs.length) : zs = xs := by
  rw [List.take_of_length_le (by omega), List.take_of_length_le (by omega)] at h; exact h
set_option maxRecDepth 100000 in
theorem toDustingS_any (A : Option Addr) (c : Nat) (xs : List Dg) (B : Nat) (w : World) (hn : xs.length ≤ 1048576) (hI : Recs encD 4 B w A xs) (hB : B ≤ w.heap.size) :
    Calls Try.prog 19 #[.slice A xs.length c] w fun e w' => e = .returned (.slice (some ⟨w.heap.size, 0, none⟩) xs.length xs.length) ∧ OwnR 75 encD 4 w.heap.size w' (.slice (some ⟨w.heap.size, 0, none⟩) xs.length xs.length) xs ∧ Below w.heap.size w w' := by
  obtain ⟨i0, hi, hz0, hz1, hz2⟩ := info_parts infoD
  have hbb : i0.bytes * xs.length ≤ 281474976710656 := by rw [hz2]; omega
  have hmx : xs.length ≤ maxLen := le_max (by omega)
  have HD := Lib.hid (fun (a f u d : Int) W => toDusting_any a f u d W)
  go_enter Try.func19, Try.ntmps19
  go_wp2_with (at_make; refine wpList_make_full _ rfl (.tmp 6) (.tmp 6) 33 rfl w.heap.size 75 i0 (.agg #[.int .i64 0, .int .i64 0, .int .i64 0, .int .i64 0]) 4 Try.underlying33 hi hz0 hz1 .i64 .i64 (xs.length : Int) (xs.length : Int) xs.length rfl rfl rfl rfl hbb hmx (Nat.le_refl _) ?_; intro w1 hown hgr)
  have hbe : Below w.heap.size w w1 := (Below.refl _ _).grown hgr (Nat.le_refl _) (fun k hk => by cases hk)
  have HO : ∃ zs : List Dg, zs.length = xs.length ∧ zs.take 0 = xs.take 0 ∧ w1.ownsRow w.heap.size 75 4 (.slice (some ⟨w.heap.size, 0, none⟩) xs.length xs.length) xs.length (zs.flatMap encD) := by
    refine ⟨List.replicate xs.length (0, 0, 0, 0), by simp, by simp, ?_⟩
    rw [← madeD]
    exact hown
  clear hown hgr hbb hmx hi hz0 hz1 hz2
  have HH := Lib.hid HO
  clear HO
  go_wp2
  go_loopw [4] (fun i wr => ∃ k : Nat, k ≤ xs.length ∧ i = .int .i64 k ∧ Below w.heap.size w wr ∧ w.heap.size < wr.heap.size ∧ ∃ zs : List Dg, zs.length = xs.length ∧ zs.take k = xs.take k ∧ wr.ownsRow w.heap.size 75 4 (.slice (some ⟨w.heap.size, 0, none⟩) xs.length xs.length) xs.length (zs.flatMap encD)) (fun i _ => xs.length - (intOf i).toNat)
  case atStart =>
    obtain ⟨zs, h1, h2, h3⟩ := HH.out
    exact ⟨0, Nat.zero_le _, rfl, hbe, (World.ownsRow.lt h3 _ rfl).2, zs, h1, h2, h3⟩
  case round =>
    obtain ⟨k, hk, rfl, hb, hlt2, zs, hz, ht, ho⟩ := hrel
    by_cases hlt : k < xs.length
    · obtain ⟨b, o, rfl, hab, c0, c1, c2, c3⟩ := ((hI.more hB).below hb).cells4 hlt
      have HO := Lib.hid ho
      have HZ := Lib.hid hz
      have HT := Lib.hid ht
      clear ho hz ht
      generalize hx : xs[k] = x at *
      have HX := Lib.hid hx
      clear hx
      have i0 : (0 : Int) ≤ (k : Int) := by omega
      have i1 : (k : Int) < xs.length := by omega
      go_wp2_with fail
      refine (HD.out _ _ _ _ _).mono ?_
      rintro e w2 ⟨rfl, hb2⟩
      have hO2 := (show OwnR 75 encD 4 w.heap.size wr (.slice (some ⟨w.heap.size, 0, none⟩) xs.length xs.length) zs by unfold OwnR; rw [HZ.out]; exact HO.out).later hb2
      unfold OwnR at hO2
      rw [HZ.out] at hO2
      have hkz : k < zs.length := by rw [HZ.out]; exact hlt
      obtain ⟨y0, e0⟩ := flatD_cell (j := 0) hkz (by omega)
      obtain ⟨y1, e1⟩ := flatD_cell (j := 1) hkz (by omega)
      obtain ⟨y2, e2⟩ := flatD_cell (j := 2) hkz (by omega)
      obtain ⟨y3, e3⟩ := flatD_cell (j := 3) hkz (by omega)
      have d0 := (World.ownsRow.cellAt hO2 (k * 4) (by omega)).trans e0
      have d1 := (World.ownsRow.cellAt hO2 (k * 4 + 1) (by omega)).trans e1
      have d2 := (World.ownsRow.cellAt hO2 (k * 4 + 2) (by omega)).trans e2
      have d3 := (World.ownsRow.cellAt hO2 (k * 4 + 3) (by omega)).trans e3
      have f0 := World.ownsRow.frozenAt hO2 (k * 4)
      have f1 := World.ownsRow.frozenAt hO2 (k * 4 + 1)
      have f2 := World.ownsRow.frozenAt hO2 (k * 4 + 2)
      have f3 := World.ownsRow.frozenAt hO2 (k * 4 + 3)
      have HO2 := Lib.hid hO2
      have hbb := hb.trans (hb2.mono hb.size)
      have hz2 : w.heap.size < w2.heap.size := by have := hb2.size; omega
      clear e0 e1 e2 e3 hO2 hkz c0 c1 c2 c3
      go_wp2_with fail
      go_roundw
      case rel =>
        obtain ⟨r0, _⟩ := World.ownsRow.stored HO2.out (k * 4) (.int .i64 x.1)
        obtain ⟨r1, _⟩ := World.ownsRow.stored r0 (k * 4 + 1) (.int .i64 x.2.1)
        obtain ⟨r2, _⟩ := World.ownsRow.stored r1 (k * 4 + 2) (.int .i64 x.2.2.1)
        obtain ⟨r3, _⟩ := World.ownsRow.stored r2 (k * 4 + 3) (.int .i64 x.2.2.2)
        rw [flatD_set _ _ _ _ zs k (by rw [HZ.out]; exact hlt)] at r3
        refine ⟨k + 1, by omega, by go_num, (((hbb.setCell (by simp) _).setCell (by simp) _).setCell (by simp) _).setCell (by simp) _, by simpa using hz2, zs.set k x, by rw [List.length_set]; exact HZ.out, ?_, r3⟩
        rw [← HX.out]
        exact take_set_succ' HZ.out hlt HT.out
      case measure => simp [intOf]; omega
    · obtain rfl : k = xs.length := by omega
      have HE := Lib.hid (take_all_eq' hz ht)
      have HO := Lib.hid ho
      clear ho hz ht
      go_wp2
      go_ret
      refine ⟨rfl, ?_, hb⟩
      have h := HO.out
      rw [HE.out] at h
      exact h
end Go.Proofs.Ytmfbdngibbkciaa
