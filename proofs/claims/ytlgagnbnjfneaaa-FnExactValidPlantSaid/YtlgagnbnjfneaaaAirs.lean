/- Lists of airways: what one is in memory; the laws' own functions on them: copies, comparisons, sizes. Conditions: the lengths that each theorem names. -/
import Derived.Test.YtlgagnbnjfneaaaStru
import Derived.Test.YtlgagnbnjfneaaaLater
import Derived.Test.YtlgagnbnjfneaaaUp
import Derived.Test.YtlgagnbnjfneaaaAirway
namespace Go.Proofs.Ytlgagnbnjfneaaa
open Go.RowKit
open Pl
/-- An airway: its name, from, to, length, section, friction, shock. -/
structure Aw where
  id : ByteArray
  f : Int
  t : Int
  l : Int
  c : Int
  r : Int
  k : Int
def encA (a : Aw) : List Value := [.string a.id, .int .i64 a.f, .int .i64 a.t, .int .i64 a.l, .int .i64 a.c, .int .i64 a.r, .int .i64 a.k]
theorem encA_len (a : Aw) : (encA a).length = 7 := rfl
def aNone : Aw := ⟨ByteArray.empty, 0, 0, 0, 0, 0, 0⟩
/-- The value of an airway. -/
def valA (a : Aw) : Value := .agg #[.string a.id, .int .i64 a.f, .int .i64 a.t, .int .i64 a.l, .int .i64 a.c, .int .i64 a.r, .int .i64 a.k]
theorem Recs.cells7 {B : Nat} {w : World} {A : Option Addr} {xs : List Aw} (h : Recs encA 7 B w A xs) {j : Nat} (hj : j < xs.length) {s : ByteArray} {f t l c r k : Int} (e : xs.getD j aNone = ⟨s, f, t, l, c, r, k⟩) : ∃ b o, A = some ⟨b, o, none⟩ ∧ b < B ∧
    w.cell? ⟨b, o + j * 7, none⟩ = some (.string s) ∧ w.cell? ⟨b, o + j * 7 + 1, none⟩ = some (.int .i64 f) ∧ w.cell? ⟨b, o + j * 7 + 2, none⟩ = some (.int .i64 t) ∧ w.cell? ⟨b, o + j * 7 + 3, none⟩ = some (.int .i64 l) ∧ w.cell? ⟨b, o + j * 7 + 4, none⟩ = some (.int .i64 c) ∧ w.cell? ⟨b, o + j * 7 + 5, none⟩ = some (.int .i64 r) ∧ w.cell? ⟨b, o + j * 7 + 6, none⟩ = some (.int .i64 k) := by
  obtain ⟨b, o, ea, hb, hc⟩ := h.at_ hj
  have e' : xs[j] = ⟨s, f, t, l, c, r, k⟩ := by rw [← e]; simp [List.getD, hj]
  rw [e'] at hc
  exact ⟨b, o, ea, hb, hc 0 _ rfl, hc 1 _ rfl, hc 2 _ rfl, hc 3 _ rfl, hc 4 _ rfl, hc 5 _ rfl, hc 6 _ rfl⟩
theorem flatA_set (a : Aw) : ∀ (zs : List Aw) (j : Nat), j < zs.length →
    ((((((((zs.flatMap encA).set (j * 7) (.string a.id)).set (j * 7 + 1) (.int .i64 a.f)).set (j * 7 + 2) (.int .i64 a.t)).set (j * 7 + 3) (.int .i64 a.l)).set (j * 7 + 4) (.int .i64 a.c)).set (j * 7 + 5) (.int .i64 a.r)).set (j * 7 + 6) (.int .i64 a.k)) = (zs.set j a).flatMap encA
  | z :: zs, 0, _ => by simp [encA]
  | z :: zs, j + 1, h => by
    have ih := flatA_set a zs j (by simpa using h)
    rw [show (j + 1) * 7 = j * 7 + 7 by omega]
    simp only [List.flatMap_cons, List.set_cons_succ, encA, List.cons_append, List.nil_append]
    have e := congrArg (fun l => Value.string z.id :: Value.int .i64 z.f :: Value.int .i64 z.t :: Value.int .i64 z.l :: Value.int .i64 z.c :: Value.int .i64 z.r :: Value.int .i64 z.k :: l) ih
    exact e
theorem madeA (n : Nat) : (madeCells #[.string ByteArray.empty, .int .i64 0, .int .i64 0, .int .i64 0, .int .i64 0, .int .i64 0, .int .i64 0] (n * 7)).toList = (List.replicate n aNone).flatMap encA := by
  unfold madeCells
  rw [Array.toList_map, Array.toList_range]
  induction n with
  | zero => rfl
  | succ n ih =>
    rw [show (n + 1) * 7 = n * 7 + 1 + 1 + 1 + 1 + 1 + 1 + 1 by omega, List.range_succ, List.range_succ, List.range_succ, List.range_succ, List.range_succ, List.range_succ, List.range_succ, List.replicate_succ', List.flatMap_append]
    simp only [List.map_append, List.append_assoc]
    rw [ih]
    congr 1
    simp [encA, aNone, Nat.add_mod]
theorem flatA_cell {zs : List Aw} {k j : Nat} (hk : k < zs.length) (hj : j < 7) : ∃ y, (zs.flatMap encA)[k * 7 + j]? = some y := by
  rw [flat_get encA_len zs k j hk hj]
  exact ⟨_, List.getElem?_eq_getElem (by rw [encA_len]; exact hj)⟩
theorem infoA : (Try.prog.info? 92).map (fun i => (i.zero, i.size, i.bytes)) = some (some (.agg #[.string ByteArray.empty, .int .i64 0, .int .i64 0, .int .i64 0, .int .i64 0, .int .i64 0, .int .i64 0]), 7, 64) := by kernel_rfl
set_option maxRecDepth 100000 in
set_option maxHeartbeats 800000 in
theorem toAirwayS_any (A : Option Addr) (c : Nat) (xs : List Aw) (B : Nat) (w : World) (hn : xs.length ≤ 1048576) (hI : Recs encA 7 B w A xs) (hB : B ≤ w.heap.size) :
    Calls Try.prog 43 #[.slice A xs.length c] w fun e w' => e = .returned (.slice (some ⟨w.heap.size, 0, none⟩) xs.length xs.length) ∧ OwnR 92 encA 7 w.heap.size w' (.slice (some ⟨w.heap.size, 0, none⟩) xs.length xs.length) xs ∧ Below w.heap.size w w' := by
  obtain ⟨i0, hi, hz0, hz1, hz2⟩ := info_parts infoA
  have hbb : i0.bytes * xs.length ≤ 281474976710656 := by rw [hz2]; omega
  have hmx : xs.length ≤ maxLen := le_max (by omega)
  have HD := Lib.hid (fun (s : ByteArray) (f t l c r k : Int) W => toAirway_any s f t l c r k W)
  go_enter Try.func43, Try.ntmps43
  go_wp2_with (at_make; refine wpList_make_full _ rfl (.tmp 6) (.tmp 6) 29 rfl w.heap.size 92 i0 (.agg #[.string ByteArray.empty, .int .i64 0, .int .i64 0, .int .i64 0, .int .i64 0, .int .i64 0, .int .i64 0]) 7 Try.underlying29 hi hz0 hz1 .i64 .i64 (xs.length : Int) (xs.length : Int) xs.length rfl rfl rfl rfl hbb hmx (Nat.le_refl _) ?_; intro w1 hown hgr)
  have hbe : Below w.heap.size w w1 := (Below.refl _ _).grown hgr (Nat.le_refl _) (fun k hk => by cases hk)
  have HO : ∃ zs : List Aw, zs.length = xs.length ∧ zs.take 0 = xs.take 0 ∧ w1.ownsRow w.heap.size 92 7 (.slice (some ⟨w.heap.size, 0, none⟩) xs.length xs.length) xs.length (zs.flatMap encA) := by
    refine ⟨List.replicate xs.length aNone, by simp, by simp, ?_⟩
    rw [← madeA]
    exact hown
  clear hown hgr hbb hmx hi hz0 hz1 hz2
  have HH := Lib.hid HO
  clear HO
  go_wp2
  go_loopw [4] (fun i wr => ∃ k : Nat, k ≤ xs.length ∧ i = .int .i64 k ∧ Below w.heap.size w wr ∧ w.heap.size < wr.heap.size ∧ ∃ zs : List Aw, zs.length = xs.length ∧ zs.take k = xs.take k ∧ wr.ownsRow w.heap.size 92 7 (.slice (some ⟨w.heap.size, 0, none⟩) xs.length xs.length) xs.length (zs.flatMap encA)) (fun i _ => xs.length - (intOf i).toNat)
  case atStart =>
    obtain ⟨zs, h1, h2, h3⟩ := HH.out
    exact ⟨0, Nat.zero_le _, rfl, hbe, (World.ownsRow.lt h3 _ rfl).2, zs, h1, h2, h3⟩
  case round =>
    obtain ⟨k, hk, rfl, hb, hlt2, zs, hz, ht, ho⟩ := hrel
    by_cases hlt : k < xs.length
    · obtain ⟨⟨xa, xf, xt, xl, xc, xr, xk⟩, hx⟩ : ∃ x, xs.getD k aNone = x := ⟨_, rfl⟩
      obtain ⟨b, o, rfl, hab, c0, c1, c2, c3, c4, c5, c6⟩ := ((hI.more hB).below hb).cells7 hlt hx
      have HO := Lib.hid ho
      have HZ := Lib.hid hz
      have HT := Lib.hid ht
      have HX : Hid (xs[k] = ⟨xa, xf, xt, xl, xc, xr, xk⟩) := Lib.hid (by rw [← hx]; simp [List.getD, hlt])
      clear ho hz ht hx
      have i0 : (0 : Int) ≤ (k : Int) := by omega
      have i1 : (k : Int) < xs.length := by omega
      go_wp2_with fail
      refine (HD.out _ _ _ _ _ _ _ _).mono ?_
      rintro e w2 ⟨rfl, hb2⟩
      have hO2 := (show OwnR 92 encA 7 w.heap.size wr (.slice (some ⟨w.heap.size, 0, none⟩) xs.length xs.length) zs by unfold OwnR; rw [HZ.out]; exact HO.out).later hb2
      unfold OwnR at hO2
      rw [HZ.out] at hO2
      have hkz : k < zs.length := by rw [HZ.out]; exact hlt
      obtain ⟨y0, e0⟩ := flatA_cell (j := 0) hkz (by omega)
      obtain ⟨y1, e1⟩ := flatA_cell (j := 1) hkz (by omega)
      obtain ⟨y2, e2⟩ := flatA_cell (j := 2) hkz (by omega)
      obtain ⟨y3, e3⟩ := flatA_cell (j := 3) hkz (by omega)
      obtain ⟨y4, e4⟩ := flatA_cell (j := 4) hkz (by omega)
      obtain ⟨y5, e5⟩ := flatA_cell (j := 5) hkz (by omega)
      obtain ⟨y6, e6⟩ := flatA_cell (j := 6) hkz (by omega)
      have d0 := (World.ownsRow.cellAt hO2 (k * 7) (by omega)).trans e0
      have d1 := (World.ownsRow.cellAt hO2 (k * 7 + 1) (by omega)).trans e1
      have d2 := (World.ownsRow.cellAt hO2 (k * 7 + 2) (by omega)).trans e2
      have d3 := (World.ownsRow.cellAt hO2 (k * 7 + 3) (by omega)).trans e3
      have d4 := (World.ownsRow.cellAt hO2 (k * 7 + 4) (by omega)).trans e4
      have d5 := (World.ownsRow.cellAt hO2 (k * 7 + 5) (by omega)).trans e5
      have d6 := (World.ownsRow.cellAt hO2 (k * 7 + 6) (by omega)).trans e6
      have f0 := World.ownsRow.frozenAt hO2 (k * 7)
      have f1 := World.ownsRow.frozenAt hO2 (k * 7 + 1)
      have f2 := World.ownsRow.frozenAt hO2 (k * 7 + 2)
      have f3 := World.ownsRow.frozenAt hO2 (k * 7 + 3)
      have f4 := World.ownsRow.frozenAt hO2 (k * 7 + 4)
      have f5 := World.ownsRow.frozenAt hO2 (k * 7 + 5)
      have f6 := World.ownsRow.frozenAt hO2 (k * 7 + 6)
      have HO2 := Lib.hid hO2
      have hbb := hb.trans (hb2.mono hb.size)
      have hz2 : w.heap.size < w2.heap.size := by have := hb2.size; omega
      clear e0 e1 e2 e3 e4 e5 e6 hO2 hkz c0 c1 c2 c3 c4 c5 c6
      go_wp2_with fail
      go_roundw
      case rel =>
        obtain ⟨r0, _⟩ := World.ownsRow.stored HO2.out (k * 7) (.string xa)
        obtain ⟨r1, _⟩ := World.ownsRow.stored r0 (k * 7 + 1) (.int .i64 xf)
        obtain ⟨r2, _⟩ := World.ownsRow.stored r1 (k * 7 + 2) (.int .i64 xt)
        obtain ⟨r3, _⟩ := World.ownsRow.stored r2 (k * 7 + 3) (.int .i64 xl)
        obtain ⟨r4, _⟩ := World.ownsRow.stored r3 (k * 7 + 4) (.int .i64 xc)
        obtain ⟨r5, _⟩ := World.ownsRow.stored r4 (k * 7 + 5) (.int .i64 xr)
        obtain ⟨r6, _⟩ := World.ownsRow.stored r5 (k * 7 + 6) (.int .i64 xk)
        rw [flatA_set ⟨xa, xf, xt, xl, xc, xr, xk⟩ zs k (by rw [HZ.out]; exact hlt)] at r6
        refine ⟨k + 1, by omega, by go_num, ((((((hbb.setCell (by simp) _).setCell (by simp) _).setCell (by simp) _).setCell (by simp) _).setCell (by simp) _).setCell (by simp) _).setCell (by simp) _, by simpa using hz2, zs.set k ⟨xa, xf, xt, xl, xc, xr, xk⟩, by rw [List.length_set]; exact HZ.out, ?_, r6⟩
        rw [← HX.out]
        exact take_set_succ' HZ.out hlt HT.out
      case measure => simp [intOf]; omega
    · obtain rfl : k = xs.length := by omega
      have HE := Lib.hid (take_all_eq' hz ht)
      have HO := Lib.hid ho
      clear ho hz ht
      go_wp2
      go_ret
      refine ⟨rfl, ?_, hb⟩
      have h := HO.out
      rw [HE.out] at h
      exact h
/-- How many letters the names of the first k airways hold. -/
def idLen (xs : List Aw) : Nat → Int | 0 => 0 | k + 1 => idLen xs k + (xs.getD k aNone).id.size
theorem idLen_nonneg (xs : List Aw) : ∀ k, 0 ≤ idLen xs k
  | 0 => by simp [idLen]
  | k + 1 => by have := idLen_nonneg xs k; unfold idLen; omega
theorem idLen_mono (xs : List Aw) : ∀ (d k : Nat), idLen xs k ≤ idLen xs (k + d)
  | 0, k => Int.le_refl _
  | d + 1, k => by have := idLen_mono xs d k; have e : idLen xs (k + (d + 1)) = idLen xs (k + d) + (xs.getD (k + d) aNone).id.size := rfl; omega
def szA (xs : List Aw) (left : Int) : Int := if (xs.length : Int) + idLen xs xs.length ≤ left then left - xs.length - idLen xs xs.length else -1
/-- All names are strings of a length that can be, all numbers fit. -/
def FitsA (xs : List Aw) : Prop := ∀ x ∈ xs, x.id.size ≤ maxLen ∧ (-9223372036854775808 ≤ x.f ∧ x.f ≤ 9223372036854775807) ∧ (-9223372036854775808 ≤ x.t ∧ x.t ≤ 9223372036854775807) ∧ (-9223372036854775808 ≤ x.l ∧ x.l ≤ 9223372036854775807) ∧ (-9223372036854775808 ≤ x.c ∧ x.c ≤ 9223372036854775807) ∧ (-9223372036854775808 ≤ x.r ∧ x.r ≤ 9223372036854775807) ∧ (-9223372036854775808 ≤ x.k ∧ x.k ≤ 9223372036854775807)
theorem FitsA.id {xs : List Aw} (h : FitsA xs) (k : Nat) : (xs.getD k aNone).id.size ≤ maxLen := by
  by_cases hk : k < xs.length
  · rw [show xs.getD k aNone = xs[k] by simp [List.getD, hk]]; exact (h _ (List.getElem_mem hk)).1
  · rw [show xs.getD k aNone = aNone by simp [List.getD, List.getElem?_eq_none (by omega : xs.length ≤ k)]]; exact Nat.zero_le _
set_option maxRecDepth 100000 in
theorem szAirwayS_any (A : Option Addr) (c : Nat) (xs : List Aw) (left : Int) (B : Nat) (w : World) (h1 : 0 ≤ left) (h0 : left ≤ 1048576) (hn : xs.length ≤ maxLen) (hF : FitsA xs) (hI : Recs encA 7 B w A xs) (hB : B ≤ w.heap.size) :
    Calls Try.prog 38 #[.slice A xs.length c, .int .i64 left] w fun e w' => e = .returned (.int .i64 (szA xs left)) ∧ Below w.heap.size w w' := by
  obtain ⟨R, hR⟩ : ∃ R, R = szA xs left := ⟨_, rfl⟩
  rw [← hR]
  have HR := Lib.hid hR
  clear hR
  have J := Lib.hid (hI.more hB)
  clear hI
  have HL := Lib.hid hF.id
  clear hF
  have HN := Lib.hid (idLen_nonneg xs)
  have hz := HN.out xs.length
  unfold maxLen at hn
  by_cases h2 : left < xs.length
  · have HF : Hid (szA xs left = -1) := Lib.hid (by unfold szA; rw [if_neg (by omega)])
    clear hz
    go_enter Try.func38, Try.ntmps38
    go_wp2
    go_ret
    exact ⟨ret_int (by rw [HR.out, HF.out]), Below.refl _ _⟩
  obtain ⟨m, m1, m2, m3⟩ := first_stop (fun k => decide ((xs.length : Int) + idLen xs (k + 1) ≤ left)) xs.length
  have M2 := Lib.hid m2
  have M3 := Lib.hid m3
  clear m2 m3 hz
  go_enter Try.func38, Try.ntmps38
  go_wp2
  go_loopw [1, 5] (fun s i wr => ∃ k : Nat, k ≤ m ∧ i = .int .i64 k ∧ s = .int .i64 (left - xs.length - idLen xs k) ∧ (xs.length : Int) + idLen xs k ≤ left ∧ Below w.heap.size w wr) (fun _ i _ => xs.length - (intOf i).toNat)
  case atStart => exact ⟨0, Nat.zero_le _, rfl, by simp [idLen], by simp [idLen]; omega, Below.refl _ _⟩
  case round =>
    obtain ⟨k, hk, rfl, rfl, hle, hb⟩ := hrel
    have hz := HN.out k
    by_cases hlt : k < xs.length
    · obtain ⟨⟨xa, xf, xt, xl, xc, xr, xk⟩, hx⟩ : ∃ x, xs.getD k aNone = x := ⟨_, rfl⟩
      obtain ⟨b, o, rfl, hab, c0, c1, c2, c3, c4, c5, c6⟩ := (J.out.below hb).cells7 hlt hx
      have hs : idLen xs (k + 1) = idLen xs k + xa.size := by rw [idLen, hx]
      have hlen : xa.size ≤ maxLen := by have := HL.out k; rw [hx] at this; exact this
      have i0 : (0 : Int) ≤ (k : Int) := by omega
      have i1 : (k : Int) < xs.length := by omega
      have HS := Lib.hid hs
      by_cases hkm : k < m
      · have hp := of_decide_eq_true (M2.out k hkm)
        rw [hs] at hp
        generalize idLen xs k = tl at *
        have HZ := Lib.hid (fun W => szAirway_yes xa xf xt xl xc xr xk (left - xs.length - tl) W (by omega) (by omega))
        clear hs hlen hx
        go_wp2_with (go_at_call 86; refine (HZ.out _).mono ?_; rintro e w' ⟨rfl, hb2⟩)
        go_roundw
        case rel => exact ⟨k + 1, by omega, by go_num, by rw [HS.out]; go_num, by rw [HS.out]; omega, hb.trans (hb2.mono hb.size)⟩
        case measure => simp [intOf]; omega
      · obtain rfl : m = k := by omega
        have hp := of_decide_eq_false (M3.out hlt)
        rw [hs] at hp
        have HF : Hid (szA xs left = -1) := Lib.hid (by
          unfold szA
          have h5 := idLen_mono xs (xs.length - (m + 1)) (m + 1)
          rw [show m + 1 + (xs.length - (m + 1)) = xs.length by omega] at h5
          rw [if_neg (by omega)])
        generalize idLen xs m = tl at *
        have HZ := Lib.hid (fun W => szAirway_no xa xf xt xl xc xr xk (left - xs.length - tl) W (by omega) (by omega) hlen (by omega))
        clear hs hlen hx
        go_wp2_with (go_at_call 86; refine (HZ.out _).mono ?_; rintro e w' ⟨rfl, hb2⟩)
        go_ret
        exact ⟨ret_int (by rw [HR.out, HF.out]), hb.trans (hb2.mono hb.size)⟩
    · obtain rfl : k = xs.length := by omega
      have HF : Hid (szA xs left = left - xs.length - idLen xs xs.length) := Lib.hid (by unfold szA; rw [if_pos hle])
      generalize idLen xs xs.length = tl at *
      go_wp2
      go_ret
      exact ⟨ret_int (by rw [HR.out, HF.out]), hb⟩
theorem eqAirway_yes (s : ByteArray) (f t l c r k : Int) (w : World) :
    Calls Try.prog 96 #[.agg #[.string s, .int .i64 f, .int .i64 t, .int .i64 l, .int .i64 c, .int .i64 r, .int .i64 k], .agg #[.string s, .int .i64 f, .int .i64 t, .int .i64 l, .int .i64 c, .int .i64 r, .int .i64 k]] w fun e w' => e = .returned (.bool true) ∧ Below w.heap.size w w' := by
  go_enter Try.func96, Try.ntmps96
  go_wp2
  go_ret
  exact ⟨rfl, by go_grown⟩
set_option maxRecDepth 100000 in
set_option maxHeartbeats 800000 in
theorem eqAirwayS_yes (A A' : Option Addr) (c c' : Nat) (xs : List Aw) (B B' : Nat) (w : World) (hn : xs.length ≤ 1099511627776) (hI : Recs encA 7 B w A xs) (hI' : Recs encA 7 B' w A' xs) (hB : B ≤ w.heap.size) (hB' : B' ≤ w.heap.size) :
    Calls Try.prog 48 #[.slice A xs.length c, .slice A' xs.length c'] w fun e w' => e = .returned (.bool true) ∧ Below w.heap.size w w' := by
  have J := Lib.hid (hI.more hB)
  have J' := Lib.hid (hI'.more hB')
  clear hI hI'
  go_enter Try.func48, Try.ntmps48
  go_wp2
  go_loopw [5] (fun i wr => ∃ k : Nat, k ≤ xs.length ∧ i = .int .i64 k ∧ Below w.heap.size w wr) (fun i _ => xs.length - (intOf i).toNat)
  case atStart => exact ⟨0, Nat.zero_le _, rfl, Below.refl _ _⟩
  case round =>
    obtain ⟨k, hk, rfl, hb⟩ := hrel
    by_cases hlt : k < xs.length
    · obtain ⟨⟨xa, xf, xt, xl, xc, xr, xk⟩, hx⟩ : ∃ x, xs.getD k aNone = x := ⟨_, rfl⟩
      obtain ⟨b, o, rfl, hab, c0, c1, c2, c3, c4, c5, c6⟩ := (J.out.below hb).cells7 hlt hx
      obtain ⟨b', o', rfl, hab', d0, d1, d2, d3, d4, d5, d6⟩ := (J'.out.below hb).cells7 hlt hx
      have HE := Lib.hid (eqAirway_yes xa xf xt xl xc xr xk)
      have i0 : (0 : Int) ≤ (k : Int) := by omega
      have i1 : (k : Int) < xs.length := by omega
      have e0 := fun L : Later wr => L.cell c0
      have e1 := fun L : Later wr => L.cell c1
      have e2 := fun L : Later wr => L.cell c2
      have e3 := fun L : Later wr => L.cell c3
      have e4 := fun L : Later wr => L.cell c4
      have e5 := fun L : Later wr => L.cell c5
      have e6 := fun L : Later wr => L.cell c6
      have g0 := fun L : Later wr => L.cell d0
      have g1 := fun L : Later wr => L.cell d1
      have g2 := fun L : Later wr => L.cell d2
      have g3 := fun L : Later wr => L.cell d3
      have g4 := fun L : Later wr => L.cell d4
      have g5 := fun L : Later wr => L.cell d5
      have g6 := fun L : Later wr => L.cell d6
      clear c0 c1 c2 c3 c4 c5 c6 d0 d1 d2 d3 d4 d5 d6 hx
      go_wp2
      refine wp_region_later (by kernel_rfl) (by kernel_rfl) ?_
      repeat (go_big_quiet_step ((go_at_call 96; first | (with_reducible exact later_b (HE.out _)) | (with_reducible exact later_d (HE.out _)) | (with_reducible exact later_s (HE.out _)))))
      refine wpQuiet_nil ?_
      intro _ hw'
      obtain ⟨LL, hw''⟩ := hw'
      subst hw''
      clear e0 e1 e2 e3 e4 e5 e6 g0 g1 g2 g3 g4 g5 g6
      have hb2 := hb.trans (LL.below.mono hb.size)
      go_wp2
      go_roundw
      case rel => exact ⟨k + 1, by omega, by go_num, hb2⟩
      case measure => simp [intOf]; omega
    · go_wp2
      go_ret
      exact ⟨rfl, hb⟩
end Go.Proofs.Ytlgagnbnjfneaaa
