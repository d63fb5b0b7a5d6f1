/- Lists of fans (a string, a number, a list of lists): what one is in memory; the laws' own functions on them: copies, sizes, comparisons. Conditions: the lengths that each theorem names. -/
import Derived.Test.YtlgagnbnjfneaaaNest
import Derived.Test.YtlgagnbnjfneaaaMineW
namespace Go.Proofs.Ytlgagnbnjfneaaa
open Go.RowKit
open Pl
structure Fa where
  id : ByteArray
  aw : Int
  cv : List (List Int)
def nFa : Fa := ⟨ByteArray.empty, 0, []⟩
/-- What lies at a fan's place. -/
def FanAt (L B : Nat) (w : World) (b o : Nat) (x : Fa) : Prop :=
  w.cell? ⟨b, o, none⟩ = some (.string x.id) ∧ w.cell? ⟨b, o + 1, none⟩ = some (.int .i64 x.aw) ∧ ∃ A' c, w.cell? ⟨b, o + 2, none⟩ = some (.slice A' x.cv.length c) ∧ NestL L B w A' x.cv
/-- From address A on lie fans that read as the list xs, all in blocks below B. -/
def Fns (B : Nat) (w : World) (A : Option Addr) (xs : List Fa) : Prop :=
  0 < xs.length → ∃ b o, A = some ⟨b, o, none⟩ ∧ b < B ∧ ∀ k, k < xs.length → FanAt 0 B w b (o + k * 3) (xs.getD k nFa)
theorem Nest.low {B : Nat} {w : World} {A : Option Addr} {xss : List (List Int)} (h : Nest B w A xss) : NestL 0 B w A xss := by
  intro hn
  obtain ⟨b, o, e, hlt, hc⟩ := h hn
  refine ⟨b, o, e, Nat.zero_le _, hlt, fun k hk => ?_⟩
  obtain ⟨A', c, h1, h2⟩ := hc k hk
  exact ⟨A', c, h1, h2, fun _ _ => Nat.zero_le _⟩
theorem Nest.belowL {L B : Nat} {w w' : World} {A : Option Addr} {xss : List (List Int)} (h : NestL L B w A xss) (hb : Below B w w') : NestL L B w' A xss := by
  intro hn
  obtain ⟨b, o, e, hl, hlt, hc⟩ := h hn
  refine ⟨b, o, e, hl, hlt, fun k hk => ?_⟩
  obtain ⟨A', c, h1, h2, h3⟩ := hc k hk
  exact ⟨A', c, (hb.cell (p := ⟨b, o + k, none⟩) hlt).trans h1, h2.below hb, h3⟩
theorem NestL.more {L B B' : Nat} {w : World} {A : Option Addr} {xss : List (List Int)} (h : NestL L B w A xss) (hB : B ≤ B') : NestL L B' w A xss := by
  intro hn
  obtain ⟨b, o, e, hl, hlt, hc⟩ := h hn
  refine ⟨b, o, e, hl, by omega, fun k hk => ?_⟩
  obtain ⟨A', c, h1, h2, h3⟩ := hc k hk
  exact ⟨A', c, h1, h2.more hB, h3⟩
theorem FanAt.below {L B : Nat} {w w' : World} {b o : Nat} {x : Fa} (h : FanAt L B w b o x) (hlt : b < B) (hb : Below B w w') : FanAt L B w' b o x := by
  obtain ⟨h0, h1, A', c, h2, h3⟩ := h
  exact ⟨(hb.cell (p := ⟨b, o, none⟩) hlt).trans h0, (hb.cell (p := ⟨b, o + 1, none⟩) hlt).trans h1, A', c, (hb.cell (p := ⟨b, o + 2, none⟩) hlt).trans h2, Nest.belowL h3 hb⟩
/-- As 'Fns', and all of it in blocks from L on. -/
def FnsL (L B : Nat) (w : World) (A : Option Addr) (xs : List Fa) : Prop :=
  0 < xs.length → ∃ b o, A = some ⟨b, o, none⟩ ∧ L ≤ b ∧ b < B ∧ ∀ k, k < xs.length → FanAt L B w b (o + k * 3) (xs.getD k nFa)
theorem FnsL.fns {L B : Nat} {w : World} {A : Option Addr} {xs : List Fa} (h : FnsL L B w A xs) : Fns B w A xs := by
  intro hn
  obtain ⟨b, o, e, _, hlt, hc⟩ := h hn
  refine ⟨b, o, e, hlt, fun k hk => ?_⟩
  obtain ⟨h0, h1, A', c, h2, h3⟩ := hc k hk
  exact ⟨h0, h1, A', c, h2, h3.less (Nat.zero_le _)⟩
theorem FnsL.less {L L' B : Nat} {w : World} {A : Option Addr} {xs : List Fa} (h : FnsL L B w A xs) (hL : L' ≤ L) : FnsL L' B w A xs := by
  intro hn
  obtain ⟨b, o, e, hl, hlt, hc⟩ := h hn
  refine ⟨b, o, e, by omega, hlt, fun k hk => ?_⟩
  obtain ⟨h0, h1, A', c, h2, h3⟩ := hc k hk
  exact ⟨h0, h1, A', c, h2, h3.less hL⟩
theorem Fns.nil {B : Nat} {w : World} {A : Option Addr} : Fns B w A [] := fun h => by simp at h
theorem Fns.below {B : Nat} {w w' : World} {A : Option Addr} {xs : List Fa} (h : Fns B w A xs) (hb : Below B w w') : Fns B w' A xs := by
  intro hn
  obtain ⟨b, o, e, hlt, hc⟩ := h hn
  exact ⟨b, o, e, hlt, fun k hk => (hc k hk).below hlt hb⟩
theorem Fns.more {B B' : Nat} {w : World} {A : Option Addr} {xs : List Fa} (h : Fns B w A xs) (hB : B ≤ B') : Fns B' w A xs := by
  intro hn
  obtain ⟨b, o, e, hlt, hc⟩ := h hn
  refine ⟨b, o, e, by omega, fun k hk => ?_⟩
  obtain ⟨h0, h1, A', c, h2, h3⟩ := hc k hk
  exact ⟨h0, h1, A', c, h2, h3.more hB⟩
theorem Fns.later {w w' : World} {A : Option Addr} {xs : List Fa} (h : Fns w.heap.size w A xs) (hb : Below w.heap.size w w') : Fns w'.heap.size w' A xs := (h.below hb).more hb.size
theorem Fns.at_ {B : Nat} {w : World} {A : Option Addr} {xs : List Fa} (h : Fns B w A xs) {k : Nat} (hk : k < xs.length) {s : ByteArray} {a : Int} {cv : List (List Int)} (e : xs.getD k nFa = ⟨s, a, cv⟩) :
    ∃ b o A' c, A = some ⟨b, o, none⟩ ∧ b < B ∧ w.cell? ⟨b, o + k * 3, none⟩ = some (.string s) ∧ w.cell? ⟨b, o + k * 3 + 1, none⟩ = some (.int .i64 a) ∧ w.cell? ⟨b, o + k * 3 + 2, none⟩ = some (.slice A' cv.length c) ∧ Nest B w A' cv := by
  obtain ⟨b, o, ea, hb, hc⟩ := h (by omega)
  obtain ⟨h0, h1, A', c, h2, h3⟩ := hc k hk
  rw [e] at h0 h1 h2 h3
  exact ⟨b, o, A', c, ea, hb, h0, h1, h2, h3.nest⟩
theorem getD_fa {xs : List Fa} {k : Nat} (h : k < xs.length) : xs.getD k nFa = xs[k] := by simp [List.getD, h]
/-- The lengths that a law's test bounds. -/
def FansLen (xs : List Fa) : Prop := ∀ x ∈ xs, x.cv.length ≤ 1048576 ∧ ∀ l ∈ x.cv, l.length ≤ 1048576
theorem put3 {w : World} {b : Nat} {u0 u1 u2 : Value} (v0 v1 v2 : Value) (c0 : w.cell? ⟨b, 0, none⟩ = some u0) (c1 : w.cell? ⟨b, 1, none⟩ = some u1) (c2 : w.cell? ⟨b, 2, none⟩ = some u2) :
    (((w.setCell ⟨b, 0, none⟩ v0).setCell ⟨b, 1, none⟩ v1).setCell ⟨b, 2, none⟩ v2).cell? ⟨b, 0, none⟩ = some v0 ∧ (((w.setCell ⟨b, 0, none⟩ v0).setCell ⟨b, 1, none⟩ v1).setCell ⟨b, 2, none⟩ v2).cell? ⟨b, 1, none⟩ = some v1 ∧ (((w.setCell ⟨b, 0, none⟩ v0).setCell ⟨b, 1, none⟩ v1).setCell ⟨b, 2, none⟩ v2).cell? ⟨b, 2, none⟩ = some v2 := by
  have ne : ∀ i j : Nat, i ≠ j → (⟨b, i, none⟩ : Addr) ≠ ⟨b, j, none⟩ := fun i j h e => h (by injection e)
  have e0 : (w.setCell ⟨b, 0, none⟩ v0).cell? ⟨b, 0, none⟩ = some v0 := World.cell?_setCell_same _ _ _ c0
  have o0 : ∀ i u, i ≠ 0 → w.cell? ⟨b, i, none⟩ = some u → (w.setCell ⟨b, 0, none⟩ v0).cell? ⟨b, i, none⟩ = some u := fun i u hi h => (World.cell?_setCell_other _ _ _ _ (ne 0 i (Ne.symm hi))).trans h
  have e1 : ((w.setCell ⟨b, 0, none⟩ v0).setCell ⟨b, 1, none⟩ v1).cell? ⟨b, 1, none⟩ = some v1 := World.cell?_setCell_same _ _ _ (o0 1 _ (by decide) c1)
  have o1 : ∀ i u, i ≠ 1 → (w.setCell ⟨b, 0, none⟩ v0).cell? ⟨b, i, none⟩ = some u → ((w.setCell ⟨b, 0, none⟩ v0).setCell ⟨b, 1, none⟩ v1).cell? ⟨b, i, none⟩ = some u := fun i u hi h => (World.cell?_setCell_other _ _ _ _ (ne 1 i (Ne.symm hi))).trans h
  have o2 : ∀ i u, i ≠ 2 → ((w.setCell ⟨b, 0, none⟩ v0).setCell ⟨b, 1, none⟩ v1).cell? ⟨b, i, none⟩ = some u → (((w.setCell ⟨b, 0, none⟩ v0).setCell ⟨b, 1, none⟩ v1).setCell ⟨b, 2, none⟩ v2).cell? ⟨b, i, none⟩ = some u := fun i u hi h => (World.cell?_setCell_other _ _ _ _ (ne 2 i (Ne.symm hi))).trans h
  exact ⟨o2 0 _ (by decide) (o1 0 _ (by decide) e0), o2 1 _ (by decide) e1, World.cell?_setCell_same _ _ _ (o1 2 _ (by decide) (o0 2 _ (by decide) c2))⟩
set_option maxHeartbeats 1600000 in
theorem toFan_any (s : ByteArray) (a : Int) (A : Option Addr) (c : Nat) (cv : List (List Int)) (B : Nat) (w : World) (hn : cv.length ≤ 1048576) (hl : ∀ xs ∈ cv, xs.length ≤ 1048576) (hI : Nest B w A cv) (hB : B ≤ w.heap.size) :
    Calls Try.prog 130 #[.agg #[.string s, .int .i64 a, .slice A cv.length c]] w fun e w' => ∃ A' c', e = .returned (.agg #[.string s, .int .i64 a, .slice A' cv.length c']) ∧ NestL w.heap.size w'.heap.size w' A' cv ∧ Below w.heap.size w w' := by
  have J0 := Lib.hid (hI.more hB)
  have HLn := Lib.hid hl
  clear hI hl
  have hb0 : Below w.heap.size w (((w.alloc (.cells #[.string s, .int .i64 a, .slice A cv.length c] 143)).alloc (.cells #[.string ⟨#[]⟩, .int .i64 0, .slice none 0 0] 149)).alloc (.cells #[.string s, .int .i64 a, .slice none 0 0] 149)) := by go_grown
  have HB := Lib.hid hb0
  clear hb0
  go_enter Try.func130, Try.ntmps130
  go_wp2_with fail
  refine (toInt64SS_low A c cv w.heap.size _ hn HLn.out (J0.out.below HB.out) (by simp <;> omega)).mono ?_
  rintro e w1 ⟨rfl, ho, hb1⟩
  obtain ⟨hc1, hf1⟩ := bcell hb1
  have hz : w.heap.size + 1 + 1 < w1.heap.size := by have := hb1.size; simp at this; omega
  have hbe := HB.out.trans (hb1.mono (by simp <;> omega))
  have HO := Lib.hid ho
  have q1 : w.heap.size + 1 < ((((w.alloc (.cells #[.string s, .int .i64 a, .slice A cv.length c] 143)).alloc (.cells #[.string ⟨#[]⟩, .int .i64 0, .slice none 0 0] 149)).alloc (.cells #[.string s, .int .i64 a, .slice none 0 0] 149))).heap.size := by simp
  have q2 : w.heap.size + 1 + 1 < ((((w.alloc (.cells #[.string s, .int .i64 a, .slice A cv.length c] 143)).alloc (.cells #[.string ⟨#[]⟩, .int .i64 0, .slice none 0 0] 149)).alloc (.cells #[.string s, .int .i64 a, .slice none 0 0] 149))).heap.size := by simp
  have d0 : w1.cell? ⟨w.heap.size + 1 + 1, 0, none⟩ = some (.string s) := by rw [hc1 _ _ q2]; go_simp
  have d1 : w1.cell? ⟨w.heap.size + 1 + 1, 1, none⟩ = some (.int .i64 a) := by rw [hc1 _ _ q2]; go_simp
  have d2 : w1.cell? ⟨w.heap.size + 1 + 1, 2, none⟩ = some (.slice none 0 0) := by rw [hc1 _ _ q2]; go_simp
  have d3 : w1.cell? ⟨w.heap.size + 1, 0, none⟩ = some (.string ⟨#[]⟩) := by rw [hc1 _ _ q1]; go_simp
  have d4 : w1.cell? ⟨w.heap.size + 1, 1, none⟩ = some (.int .i64 0) := by rw [hc1 _ _ q1]; go_simp
  have d5 : w1.cell? ⟨w.heap.size + 1, 2, none⟩ = some (.slice none 0 0) := by rw [hc1 _ _ q1]; go_simp
  have f2 : w1.frozen? ⟨w.heap.size + 1 + 1, 2, none⟩ = false := by rw [hf1 _ _ q2]; go_simp
  have f3 : w1.frozen? ⟨w.heap.size + 1, 0, none⟩ = false := by rw [hf1 _ _ q1]; go_simp
  have f4 : w1.frozen? ⟨w.heap.size + 1, 1, none⟩ = false := by rw [hf1 _ _ q1]; go_simp
  have f5 : w1.frozen? ⟨w.heap.size + 1, 2, none⟩ = false := by rw [hf1 _ _ q1]; go_simp
  clear hc1 hf1 hb1 ho q1 q2
  go_wp2_with fail
  have t3 := (World.cell?_setCell_other w1 ⟨w.heap.size + 1 + 1, 2, none⟩ ⟨w.heap.size + 1, 0, none⟩ (.slice (some ⟨w.heap.size + 1 + 1 + 1, 0, none⟩) cv.length cv.length) (by simp)).trans d3
  have t4 := (World.cell?_setCell_other w1 ⟨w.heap.size + 1 + 1, 2, none⟩ ⟨w.heap.size + 1, 1, none⟩ (.slice (some ⟨w.heap.size + 1 + 1 + 1, 0, none⟩) cv.length cv.length) (by simp)).trans d4
  have t5 := (World.cell?_setCell_other w1 ⟨w.heap.size + 1 + 1, 2, none⟩ ⟨w.heap.size + 1, 2, none⟩ (.slice (some ⟨w.heap.size + 1 + 1 + 1, 0, none⟩) cv.length cv.length) (by simp)).trans d5
  obtain ⟨r0, r1, r2⟩ := put3 (.string s) (.int .i64 a) (.slice (some ⟨w.heap.size + 1 + 1 + 1, 0, none⟩) cv.length cv.length) t3 t4 t5
  refine bodyPost_ret (v := .agg #[.string s, .int .i64 a, (.slice (some ⟨w.heap.size + 1 + 1 + 1, 0, none⟩) cv.length cv.length)]) (by simp [results, Try.results130, go_sem, r0, r1, r2]) rfl ⟨_, _, rfl, ?_, (((hbe.setCell (by simp <;> omega) _).setCell (by simp) _).setCell (by simp) _).setCell (by simp) _⟩
  have h := HO.out
  have hs : ((((w.alloc (.cells #[.string s, .int .i64 a, .slice A cv.length c] 143)).alloc (.cells #[.string ⟨#[]⟩, .int .i64 0, .slice none 0 0] 149)).alloc (.cells #[.string s, .int .i64 a, .slice none 0 0] 149))).heap.size = w.heap.size + 1 + 1 + 1 := by simp
  rw [hs] at h
  have h4 := (((h.setCell (p := ⟨w.heap.size + 1 + 1, 2, none⟩) (v := (.slice (some ⟨w.heap.size + 1 + 1 + 1, 0, none⟩) cv.length cv.length)) (by simp)).setCell (p := ⟨w.heap.size + 1, 0, none⟩) (v := .string s) (by simp <;> omega)).setCell (p := ⟨w.heap.size + 1, 1, none⟩) (v := .int .i64 a) (by simp <;> omega)).setCell (p := ⟨w.heap.size + 1, 2, none⟩) (v := (.slice (some ⟨w.heap.size + 1 + 1 + 1, 0, none⟩) cv.length cv.length)) (by simp <;> omega)
  simpa using h4.less (by omega)
theorem infoFa : (Try.prog.info? 149).map (fun i => (i.zero, i.size, i.bytes)) = some (some (.agg #[.string ByteArray.empty, .int .i64 0, .slice none 0 0]), 3, 48) := by kernel_rfl
/-- The fans that have been copied so far: cells zs of the row in block g. -/
def CopiedF (g : Nat) (w : World) (zs : List Value) (xs : List Fa) (k : Nat) : Prop :=
  ∀ j, j < k → zs[j * 3]? = some (.string (xs.getD j nFa).id) ∧ zs[j * 3 + 1]? = some (.int .i64 (xs.getD j nFa).aw) ∧ ∃ A' c, zs[j * 3 + 2]? = some (.slice A' (xs.getD j nFa).cv.length c) ∧ NestL (g + 1) w.heap.size w A' (xs.getD j nFa).cv
set_option maxRecDepth 100000 in
set_option maxHeartbeats 1600000 in
theorem toFanS_low (A : Option Addr) (c : Nat) (xs : List Fa) (B : Nat) (w : World) (hn : xs.length ≤ 1048576) (hl : FansLen xs) (hI : Fns B w A xs) (hB : B ≤ w.heap.size) :
    Calls Try.prog 78 #[.slice A xs.length c] w fun e w' => e = .returned (.slice (some ⟨w.heap.size, 0, none⟩) xs.length xs.length) ∧ FnsL w.heap.size w'.heap.size w' (some ⟨w.heap.size, 0, none⟩) xs ∧ Below w.heap.size w w' := by
  obtain ⟨i0, hi, hz0, hz1, hz2⟩ := info_parts infoFa
  have hbb : i0.bytes * xs.length ≤ 281474976710656 := by rw [hz2]; omega
  have hmx : xs.length ≤ maxLen := le_max (by omega)
  have J := Lib.hid (hI.more hB)
  have HL := Lib.hid hl
  clear hI hl
  go_enter Try.func78, Try.ntmps78
  go_wp2_with (at_make; refine wpList_make_full _ rfl (.tmp 6) (.tmp 6) 60 rfl w.heap.size 149 i0 (.agg #[.string ByteArray.empty, .int .i64 0, .slice none 0 0]) 3 Try.underlying60 hi hz0 hz1 .i64 .i64 (xs.length : Int) (xs.length : Int) xs.length rfl rfl rfl rfl hbb hmx (Nat.le_refl _) ?_; intro w1 hown hgr)
  have hbe : Below w.heap.size w w1 := (Below.refl _ _).grown hgr (Nat.le_refl _) (fun k hk => by cases hk)
  have HO : ∃ zs : List Value, zs.length = xs.length * 3 ∧ w1.ownsRow w.heap.size 149 3 (.slice (some ⟨w.heap.size, 0, none⟩) xs.length xs.length) xs.length zs := ⟨_, by simp [madeCells], hown⟩
  clear hown hgr hbb hmx hi hz0 hz1 hz2
  have HH := Lib.hid HO
  clear HO
  go_wp2
  go_loopw [4] (fun i wr => ∃ k : Nat, k ≤ xs.length ∧ i = .int .i64 k ∧ Below w.heap.size w wr ∧ w.heap.size < wr.heap.size ∧ ∃ zs : List Value, zs.length = xs.length * 3 ∧ CopiedF w.heap.size wr zs xs k ∧ wr.ownsRow w.heap.size 149 3 (.slice (some ⟨w.heap.size, 0, none⟩) xs.length xs.length) xs.length zs) (fun i _ => xs.length - (intOf i).toNat)
  case atStart =>
    obtain ⟨zs, h1, h3⟩ := HH.out
    exact ⟨0, Nat.zero_le _, rfl, hbe, (World.ownsRow.lt h3 _ rfl).2, zs, h1, fun j hj => by omega, h3⟩
  case round =>
    obtain ⟨k, hk, rfl, hb, hlt2, zs, hz, ht, ho⟩ := hrel
    by_cases hlt : k < xs.length
    · obtain ⟨⟨s, a, cv⟩, hx⟩ : ∃ x, xs.getD k nFa = x := ⟨_, rfl⟩
      obtain ⟨b, o, A', c', rfl, hab, c0, c1, c2, hI'⟩ := (J.out.below hb).at_ hlt hx
      have hll : cv.length ≤ 1048576 ∧ ∀ l ∈ cv, l.length ≤ 1048576 := by
        have := HL.out _ (List.getElem_mem hlt)
        rw [← getD_fa hlt, hx] at this
        exact this
      have HT := Lib.hid ht
      have HZ := Lib.hid hz
      have HO := Lib.hid ho
      have HX := Lib.hid hx
      have HC := Lib.hid (toFan_any s a A' c' cv w.heap.size wr hll.1 hll.2 hI' hb.size)
      have j0 : (0 : Int) ≤ (k : Int) := by omega
      have j1 : (k : Int) < xs.length := by omega
      clear ho hz ht hx hI' hll
      go_wp2_with fail
      refine HC.out.mono ?_
      rintro e w2 ⟨A2, c2', rfl, ho2, hb2⟩
      have hown2 := HO.out
      have hbw : Below w.heap.size w w2 := hb.trans (hb2.mono hb.size)
      have hO2 : w2.ownsRow w.heap.size 149 3 (.slice (some ⟨w.heap.size, 0, none⟩) xs.length xs.length) xs.length zs := by
        refine ⟨hown2.1, ?_⟩
        rcases hown2.2 with hn' | ⟨g, cap, cur, e1, e2, e3, rest⟩
        · exact .inl hn'
        · refine .inr ⟨g, cap, cur, e1, e2, (hb2.block g ?_).trans e3, rest⟩
          have := (World.ownsRow.lt hown2 g (by rw [e1]; rfl)).2
          exact this
      have hz2 : w.heap.size < w2.heap.size := by have := hb2.size; omega
      have hzl := HZ.out
      have q0 := World.ownsRow.cellAt hO2 (k * 3) (by omega)
      have q1 := World.ownsRow.cellAt hO2 (k * 3 + 1) (by omega)
      have q2 := World.ownsRow.cellAt hO2 (k * 3 + 2) (by omega)
      rw [List.getElem?_eq_getElem (by omega)] at q0 q1 q2
      have f0 := World.ownsRow.frozenAt hO2 (k * 3)
      have f1 := World.ownsRow.frozenAt hO2 (k * 3 + 1)
      have f2 := World.ownsRow.frozenAt hO2 (k * 3 + 2)
      generalize zs[k * 3]'(by omega) = y0 at *
      generalize zs[k * 3 + 1]'(by omega) = y1 at *
      generalize zs[k * 3 + 2]'(by omega) = y2 at *
      have HO2 := Lib.hid hO2
      have HI2 := Lib.hid ho2
      clear hO2 ho2 hown2 hzl c0 c1 c2
      go_wp2_with fail
      go_roundw
      case rel =>
        obtain ⟨r0, _⟩ := World.ownsRow.stored HO2.out (k * 3) (.string s)
        obtain ⟨r1, _⟩ := World.ownsRow.stored r0 (k * 3 + 1) (.int .i64 a)
        obtain ⟨r2, _⟩ := World.ownsRow.stored r1 (k * 3 + 2) (.slice A2 cv.length c2')
        have keep : ∀ {A3 : Option Addr} {ys : List (List Int)}, NestL (w.heap.size + 1) w2.heap.size w2 A3 ys → NestL (w.heap.size + 1) (((w2.setCell ⟨w.heap.size, k * 3, none⟩ (.string s)).setCell ⟨w.heap.size, k * 3 + 1, none⟩ (.int .i64 a)).setCell ⟨w.heap.size, k * 3 + 2, none⟩ (.slice A2 cv.length c2')).heap.size (((w2.setCell ⟨w.heap.size, k * 3, none⟩ (.string s)).setCell ⟨w.heap.size, k * 3 + 1, none⟩ (.int .i64 a)).setCell ⟨w.heap.size, k * 3 + 2, none⟩ (.slice A2 cv.length c2')) A3 ys := fun h => by
          have := ((h.setCell (p := ⟨w.heap.size, k * 3, none⟩) (v := .string s) (by simp)).setCell (p := ⟨w.heap.size, k * 3 + 1, none⟩) (v := .int .i64 a) (by simp)).setCell (p := ⟨w.heap.size, k * 3 + 2, none⟩) (v := .slice A2 cv.length c2') (by simp)
          simpa using this
        have hzl := HZ.out
        refine ⟨k + 1, by omega, by go_num, ((hbw.setCell (by simp) _).setCell (by simp) _).setCell (by simp) _, by simpa using hz2, _, by simpa using hzl, ?_, r2⟩
        intro j hj
        by_cases e : j = k
        · subst e
          rw [HX.out]
          refine ⟨?_, ?_, A2, c2', ?_, keep (HI2.out.less (by omega))⟩
          · rw [List.getElem?_set_ne (by omega), List.getElem?_set_ne (by omega), List.getElem?_set_self (by omega)]
          · rw [List.getElem?_set_ne (by omega), List.getElem?_set_self (by rw [List.length_set]; omega)]
          · rw [List.getElem?_set_self (by rw [List.length_set, List.length_set]; omega)]
        · obtain ⟨g0, g1, A1, c1', g2, g3⟩ := HT.out j (by omega)
          refine ⟨?_, ?_, A1, c1', ?_, keep (g3.later hb2)⟩
          · rw [List.getElem?_set_ne (by omega), List.getElem?_set_ne (by omega), List.getElem?_set_ne (by omega)]; exact g0
          · rw [List.getElem?_set_ne (by omega), List.getElem?_set_ne (by omega), List.getElem?_set_ne (by omega)]; exact g1
          · rw [List.getElem?_set_ne (by omega), List.getElem?_set_ne (by omega), List.getElem?_set_ne (by omega)]; exact g2
      case measure => simp [intOf]; omega
    · obtain rfl : k = xs.length := by omega
      have HT := Lib.hid ht
      have HO := Lib.hid ho
      have HZ := Lib.hid hz
      clear ho hz ht
      go_wp2
      go_ret
      refine ⟨rfl, fun _ => ⟨w.heap.size, 0, rfl, Nat.le_refl _, hlt2, fun k hk => ?_⟩, hb⟩
      obtain ⟨g0, g1, A1, c1', g2, g3⟩ := HT.out k hk
      rw [Nat.zero_add]
      refine ⟨(World.ownsRow.cellAt HO.out (k * 3) (by omega)).trans g0, (World.ownsRow.cellAt HO.out (k * 3 + 1) (by omega)).trans g1, A1, c1', (World.ownsRow.cellAt HO.out (k * 3 + 2) (by omega)).trans g2, g3.less (by omega)⟩
theorem szL_or (xss : List (List Int)) (left : Int) : szL xss left = -1 ∨ (0 ≤ szL xss left ∧ szL xss left ≤ left ∧ (xss.length : Int) ≤ left ∧ ∀ xs ∈ xss, (xs.length : Int) ≤ left) := by
  have h0 := totLen_nonneg xss xss.length
  unfold szL
  split
  · rename_i h
    refine .inr ⟨by omega, by omega, by omega, fun xs hx => ?_⟩
    obtain ⟨i, hi, rfl⟩ := List.mem_iff_getElem.1 hx
    have h1 := totLen_nonneg xss i
    have h2 : totLen xss (i + 1) = totLen xss i + (xss.getD i []).length := rfl
    have h3 := totLen_mono xss (xss.length - (i + 1)) (i + 1)
    rw [show i + 1 + (xss.length - (i + 1)) = xss.length by omega] at h3
    rw [getD_il hi] at h2
    omega
  · exact .inl rfl
def szFa (x : Fa) (left : Int) : Int := if left < x.id.size then -1 else szL x.cv (left - x.id.size)
theorem szFa_or (x : Fa) (left : Int) (_ : 0 ≤ left) : szFa x left = -1 ∨ (0 ≤ szFa x left ∧ szFa x left ≤ left ∧ (x.cv.length : Int) ≤ left ∧ ∀ xs ∈ x.cv, (xs.length : Int) ≤ left) := by
  unfold szFa
  split
  · exact .inl rfl
  · rcases szL_or x.cv (left - x.id.size) with h | ⟨h1, h2, h3, h4⟩
    · exact .inl h
    · exact .inr ⟨h1, by omega, by omega, fun xs hx => by have := h4 xs hx; omega⟩
/-- What is left behind k fans. -/
def stF (xs : List Fa) (left : Int) : Nat → Int | 0 => left - xs.length | k + 1 => if stF xs left k < 0 then -1 else szFa (xs.getD k nFa) (stF xs left k)
theorem stF_neg (xs : List Fa) (left : Int) : ∀ (d k : Nat), stF xs left k < 0 → stF xs left (k + d) < 0
  | 0, _, h => h
  | d + 1, k, h => by
    have ih := stF_neg xs left d k h
    show (if stF xs left (k + d) < 0 then -1 else szFa (xs.getD (k + d) nFa) (stF xs left (k + d))) < 0
    rw [if_pos ih]; decide
theorem stF_le (xs : List Fa) (left : Int) : ∀ k : Nat, 0 ≤ left → stF xs left k ≤ left
  | 0, _ => by unfold stF; omega
  | k + 1, h0 => by
    have ih := stF_le xs left k h0
    unfold stF
    split
    · omega
    · rename_i h
      rcases szFa_or (xs.getD k nFa) (stF xs left k) (by omega) with e | ⟨_, h2, _⟩ <;> omega
def szF (xs : List Fa) (left : Int) : Int := if stF xs left xs.length < 0 then -1 else stF xs left xs.length
theorem szF_or (xs : List Fa) (left : Int) (h : left ≤ 1048576) (h0 : 0 ≤ left) : szF xs left = -1 ∨ (0 ≤ szF xs left ∧ szF xs left ≤ left ∧ (xs.length : Int) ≤ 1048576 ∧ FansLen xs) := by
  unfold szF
  split
  · exact .inl rfl
  · rename_i hp
    have hk : ∀ k, k ≤ xs.length → 0 ≤ stF xs left k := fun k hk => by
      rcases Int.lt_or_le (stF xs left k) 0 with h' | h'
      · have := stF_neg xs left (xs.length - k) k h'
        rw [show k + (xs.length - k) = xs.length by omega] at this
        omega
      · exact h'
    have h00 := hk 0 (Nat.zero_le _)
    unfold stF at h00
    refine .inr ⟨by omega, stF_le xs left _ h0, by omega, fun x hx => ?_⟩
    obtain ⟨i, hi, rfl⟩ := List.mem_iff_getElem.1 hx
    have h1 := hk i (by omega)
    have h2 := hk (i + 1) (by omega)
    have hle := stF_le xs left i h0
    unfold stF at h2
    rw [if_neg (by omega), getD_fa hi] at h2
    rcases szFa_or xs[i] (stF xs left i) h1 with e | ⟨_, _, h3, h4⟩
    · omega
    · exact ⟨by omega, fun l hl => by have := h4 l hl; omega⟩
/-- All names are strings of a length that can be, all numbers fit. -/
def FitsF (xs : List Fa) : Prop := ∀ x ∈ xs, x.id.size ≤ maxLen ∧ (-9223372036854775808 ≤ x.aw ∧ x.aw ≤ 9223372036854775807) ∧ x.cv.length ≤ maxLen ∧ ∀ l ∈ x.cv, l.length ≤ maxLen ∧ Fits l
theorem szFan_any (s : ByteArray) (a : Int) (A : Option Addr) (c : Nat) (cv : List (List Int)) (left : Int) (B : Nat) (w : World) (h1 : 0 ≤ left) (h0 : left ≤ 1048576) (hs : s.size ≤ maxLen) (hn : cv.length ≤ maxLen) (hl : ∀ xs ∈ cv, xs.length ≤ maxLen) (hI : Nest B w A cv) (hB : B ≤ w.heap.size) :
    Calls Try.prog 123 #[.agg #[.string s, .int .i64 a, .slice A cv.length c], .int .i64 left] w fun e w' => e = .returned (.int .i64 (szFa ⟨s, a, cv⟩ left)) ∧ Below w.heap.size w w' := by
  obtain ⟨R, hR⟩ : ∃ R, R = szFa ⟨s, a, cv⟩ left := ⟨_, rfl⟩
  rw [← hR]
  have HR := Lib.hid hR
  clear hR
  have hb0 : Below w.heap.size w (w.alloc (.cells #[.string s, .int .i64 a, .slice A cv.length c] 143)) := by go_grown
  by_cases h2 : left < s.size
  · have HF : Hid (szFa ⟨s, a, cv⟩ left = -1) := Lib.hid (by unfold szFa; rw [if_pos h2])
    unfold maxLen at hs
    clear hI hl hn
    go_enter Try.func123, Try.ntmps123
    go_wp2
    go_ret
    exact ⟨ret_int (by rw [HR.out, HF.out]), hb0⟩
  · have HF : Hid (szFa ⟨s, a, cv⟩ left = szL cv (left - s.size)) := Lib.hid (by unfold szFa; rw [if_neg h2])
    have HC := Lib.hid (szInt64SS_any A c cv (left - s.size) w.heap.size _ (by omega) (by omega) hn hl ((hI.more hB).below hb0))
    have HOr := szL_or cv (left - s.size)
    clear hI hl hn
    generalize szL cv (left - s.size) = t at *
    by_cases ht : t < 0
    · have e : t = -1 := by omega
      go_enter Try.func123, Try.ntmps123
      go_wp2_with (go_at_call 72; refine (HC.out).mono ?_; rintro e w' ⟨rfl, rfl⟩)
      go_ret
      exact ⟨ret_int (by rw [HR.out, HF.out, e]), hb0⟩
    · go_enter Try.func123, Try.ntmps123
      go_wp2_with (go_at_call 72; refine (HC.out).mono ?_; rintro e w' ⟨rfl, rfl⟩)
      go_ret
      exact ⟨ret_int (by rw [HR.out, HF.out]), hb0⟩
set_option maxRecDepth 100000 in
theorem szFanS_any (A : Option Addr) (c : Nat) (xs : List Fa) (left : Int) (B : Nat) (w : World) (h1 : 0 ≤ left) (h0 : left ≤ 1048576) (hn : xs.length ≤ maxLen) (hF : FitsF xs) (hI : Fns B w A xs) (hB : B ≤ w.heap.size) :
    Calls Try.prog 73 #[.slice A xs.length c, .int .i64 left] w fun e w' => e = .returned (.int .i64 (szF xs left)) ∧ Below w.heap.size w w' := by
  obtain ⟨R, hR⟩ : ∃ R, R = szF xs left := ⟨_, rfl⟩
  rw [← hR]
  have HR := Lib.hid hR
  clear hR
  have J := Lib.hid (hI.more hB)
  have HFF := Lib.hid hF
  have HSt := Lib.hid (fun k => stF_le xs left k h1)
  have HNg := Lib.hid (stF_neg xs left)
  clear hI hF
  unfold maxLen at hn
  by_cases h2 : left < xs.length
  · have HF : Hid (szF xs left = -1) := Lib.hid (by
      have h00 : stF xs left 0 < 0 := by unfold stF; omega
      have := stF_neg xs left xs.length 0 h00
      rw [Nat.zero_add] at this
      unfold szF; rw [if_pos this])
    go_enter Try.func73, Try.ntmps73
    go_wp2
    go_ret
    exact ⟨ret_int (by rw [HR.out, HF.out]), Below.refl _ _⟩
  go_enter Try.func73, Try.ntmps73
  go_wp2
  go_loopw [1, 5] (fun s i wr => ∃ k : Nat, k ≤ xs.length ∧ i = .int .i64 k ∧ s = .int .i64 (stF xs left k) ∧ 0 ≤ stF xs left k ∧ Below w.heap.size w wr) (fun _ i _ => xs.length - (intOf i).toNat)
  case atStart => exact ⟨0, Nat.zero_le _, rfl, by simp [stF], by simp [stF]; omega, Below.refl _ _⟩
  case round =>
    obtain ⟨k, hk, rfl, rfl, hle, hb⟩ := hrel
    have hu := HSt.out k
    by_cases hlt : k < xs.length
    · obtain ⟨⟨s, a, cv⟩, hx⟩ : ∃ x, xs.getD k nFa = x := ⟨_, rfl⟩
      obtain ⟨b, o, A', c', rfl, hab, c0, c1, c2, hI'⟩ := (J.out.below hb).at_ hlt hx
      have hff : s.size ≤ maxLen ∧ (-9223372036854775808 ≤ a ∧ a ≤ 9223372036854775807) ∧ cv.length ≤ maxLen ∧ ∀ l ∈ cv, l.length ≤ maxLen ∧ Fits l := by
        have := HFF.out _ (List.getElem_mem hlt)
        rw [← getD_fa hlt, hx] at this
        exact this
      have HS : Hid (stF xs left (k + 1) = szFa ⟨s, a, cv⟩ (stF xs left k)) := Lib.hid (by
        show (if stF xs left k < 0 then -1 else szFa (xs.getD k nFa) (stF xs left k)) = _
        rw [if_neg (by omega), hx])
      have HC := Lib.hid (szFan_any s a A' c' cv (stF xs left k) w.heap.size wr hle (by omega) hff.1 hff.2.2.1 (fun l hl => (hff.2.2.2 l hl).1) hI' hb.size)
      have i0 : (0 : Int) ≤ (k : Int) := by omega
      have i1 : (k : Int) < xs.length := by omega
      have hu2 := HSt.out (k + 1)
      rw [← HS.out] at HC
      clear hI' hff hx
      generalize hsn : stF xs left (k + 1) = t at *
      have HT := Lib.hid hsn
      generalize stF xs left k = t0 at *
      clear hsn
      by_cases ht : t < 0
      · have HF : Hid (szF xs left = -1) := Lib.hid (by
          have h5 := HNg.out (xs.length - (k + 1)) (k + 1) (by rw [HT.out]; exact ht)
          rw [show k + 1 + (xs.length - (k + 1)) = xs.length by omega] at h5
          unfold szF; rw [if_pos h5])
        go_wp2_with fail
        refine HC.out.mono ?_
        rintro e w2 ⟨rfl, hb2⟩
        go_wp2_with fail
        go_ret
        exact ⟨ret_int (by rw [HR.out, HF.out]), hb.trans (hb2.mono hb.size)⟩
      · go_wp2_with fail
        refine HC.out.mono ?_
        rintro e w2 ⟨rfl, hb2⟩
        go_wp2_with fail
        go_roundw
        case rel => exact ⟨k + 1, by omega, by go_num, by rw [HT.out], by rw [HT.out]; omega, hb.trans (hb2.mono hb.size)⟩
        case measure => simp [intOf]; omega
    · obtain rfl : k = xs.length := by omega
      have HF : Hid (szF xs left = stF xs left xs.length) := Lib.hid (by unfold szF; rw [if_neg (by omega)])
      generalize stF xs left xs.length = t at *
      go_wp2
      go_ret
      exact ⟨ret_int (by rw [HR.out, HF.out]), hb⟩
theorem eqFan_yes (s : ByteArray) (a : Int) (A A' : Option Addr) (c c' : Nat) (cv : List (List Int)) (B B' : Nat) (w : World) (hn : cv.length ≤ 1099511627776) (hl : ∀ xs ∈ cv, xs.length ≤ 1048576) (hI : Nest B w A cv) (hI' : Nest B' w A' cv) (hB : B ≤ w.heap.size) (hB' : B' ≤ w.heap.size) :
    Calls Try.prog 139 #[.agg #[.string s, .int .i64 a, .slice A cv.length c], .agg #[.string s, .int .i64 a, .slice A' cv.length c']] w fun e w' => e = .returned (.bool true) ∧ Below w.heap.size w w' := by
  have HE := Lib.hid (fun W (hb : Below w.heap.size w W) => eqInt64SS_yes A A' c c' cv w.heap.size w.heap.size W hn hl ((hI.more hB).below hb) ((hI'.more hB').below hb) hb.size hb.size)
  have hb0 : Below w.heap.size w ((w.alloc (.cells #[.string s, .int .i64 a, .slice A cv.length c] 149)).alloc (.cells #[.string s, .int .i64 a, .slice A' cv.length c'] 149)) := by go_grown
  clear hI hI' hl
  go_enter Try.func139, Try.ntmps139
  go_wp2_with fail
  refine (HE.out _ hb0).mono ?_
  rintro e w2 ⟨rfl, hb2⟩
  go_wp2_with fail
  go_ret
  exact ⟨rfl, hb0.trans (hb2.mono hb0.size)⟩
set_option maxRecDepth 100000 in
set_option maxHeartbeats 800000 in
theorem eqFanS_yes (A A' : Option Addr) (c c' : Nat) (xs : List Fa) (B B' : Nat) (w : World) (hn : xs.length ≤ 1099511627776) (hl : FansLen xs) (hI : Fns B w A xs) (hI' : Fns B' w A' xs) (hB : B ≤ w.heap.size) (hB' : B' ≤ w.heap.size) :
    Calls Try.prog 85 #[.slice A xs.length c, .slice A' xs.length c'] w fun e w' => e = .returned (.bool true) ∧ Below w.heap.size w w' := by
  have J := Lib.hid (hI.more hB)
  have J' := Lib.hid (hI'.more hB')
  have HL := Lib.hid hl
  clear hI hI' hl
  go_enter Try.func85, Try.ntmps85
  go_wp2
  go_loopw [5] (fun i wr => ∃ k : Nat, k ≤ xs.length ∧ i = .int .i64 k ∧ Below w.heap.size w wr) (fun i _ => xs.length - (intOf i).toNat)
  case atStart => exact ⟨0, Nat.zero_le _, rfl, Below.refl _ _⟩
  case round =>
    obtain ⟨k, hk, rfl, hb⟩ := hrel
    by_cases hlt : k < xs.length
    · obtain ⟨⟨s, a, cv⟩, hx⟩ : ∃ x, xs.getD k nFa = x := ⟨_, rfl⟩
      obtain ⟨b, o, A1, c1', rfl, hab, c0, c1, c2, I1⟩ := (J.out.below hb).at_ hlt hx
      obtain ⟨b', o', A2, c2', rfl, hab', d0, d1, d2, I2⟩ := (J'.out.below hb).at_ hlt hx
      have hll : cv.length ≤ 1048576 ∧ ∀ l ∈ cv, l.length ≤ 1048576 := by
        have := HL.out _ (List.getElem_mem hlt)
        rw [← getD_fa hlt, hx] at this
        exact this
      have HE := Lib.hid (fun L : Later wr => eqFan_yes s a A1 A2 c1' c2' cv wr.heap.size wr.heap.size L.world (by omega) hll.2 ((I1.more hb.size).below L.below) ((I2.more hb.size).below L.below) L.below.size L.below.size)
      have j0 : (0 : Int) ≤ (k : Int) := by omega
      have j1 : (k : Int) < xs.length := by omega
      have e0 := fun L : Later wr => L.cell c0
      have e1 := fun L : Later wr => L.cell c1
      have e2 := fun L : Later wr => L.cell c2
      have g0 := fun L : Later wr => L.cell d0
      have g1 := fun L : Later wr => L.cell d1
      have g2 := fun L : Later wr => L.cell d2
      clear c0 c1 c2 d0 d1 d2 hx I1 I2 hll
      go_wp2
      refine wp_region_later (by kernel_rfl) (by kernel_rfl) ?_
      repeat (go_big_quiet_step ((go_at_call 139; first | (with_reducible exact later_b (HE.out _)) | (with_reducible exact later_d (HE.out _)) | (with_reducible exact later_s (HE.out _)))))
      refine wpQuiet_nil ?_
      intro _ hw'
      obtain ⟨LL, hw''⟩ := hw'
      subst hw''
      clear e0 e1 e2 g0 g1 g2
      have hb2 := hb.trans (LL.below.mono hb.size)
      go_wp2
      go_roundw
      case rel => exact ⟨k + 1, by omega, by go_num, hb2⟩
      case measure => simp [intOf]; omega
    · go_wp2
      go_ret
      exact ⟨rfl, hb⟩
end Go.Proofs.Ytlgagnbnjfneaaa
