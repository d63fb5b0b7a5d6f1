/- Lists of lists of numbers: what one is in memory; the laws' own functions on them: a copy, a comparison, a size; how an argument of that shape opens. Conditions: the lengths that each theorem names. -/
import Derived.Test.YtlgagnbnjfneaaaClone
import Derived.Test.YtlgagnbnjfneaaaLater
import Derived.Test.YtlgagnbnjfneaaaUp
import Derived.Deep.Matrix
namespace Go.Proofs.Ytlgagnbnjfneaaa
open Go.RowKit
open Pl
/-- 'Nest B w A xss': from address A on lie slices that read as the lists xss, all in blocks below B. -/
def Nest (B : Nat) (w : World) (A : Option Addr) (xss : List (List Int)) : Prop :=
  0 < xss.length → ∃ b o, A = some ⟨b, o, none⟩ ∧ b < B ∧ ∀ k (h : k < xss.length), ∃ A' c, w.cell? ⟨b, o + k, none⟩ = some (.slice A' xss[k].length c) ∧ Ints B w A' xss[k]
theorem Nest.nil {B : Nat} {w : World} {A : Option Addr} : Nest B w A [] := fun h => by simp at h
theorem Nest.below {B : Nat} {w w' : World} {A : Option Addr} {xss : List (List Int)} (h : Nest B w A xss) (hb : Below B w w') : Nest B w' A xss := by
  intro hn
  obtain ⟨b, o, e, hlt, hc⟩ := h hn
  refine ⟨b, o, e, hlt, fun k hk => ?_⟩
  obtain ⟨A', c, h1, h2⟩ := hc k hk
  exact ⟨A', c, (hb.cell (p := ⟨b, o + k, none⟩) hlt).trans h1, h2.below hb⟩
theorem Nest.more {B B' : Nat} {w : World} {A : Option Addr} {xss : List (List Int)} (h : Nest B w A xss) (hB : B ≤ B') : Nest B' w A xss := by
  intro hn
  obtain ⟨b, o, e, hlt, hc⟩ := h hn
  refine ⟨b, o, e, by omega, fun k hk => ?_⟩
  obtain ⟨A', c, h1, h2⟩ := hc k hk
  exact ⟨A', c, h1, h2.more hB⟩
theorem Nest.later {w w' : World} {A : Option Addr} {xss : List (List Int)} (h : Nest w.heap.size w A xss) (hb : Below w.heap.size w w') : Nest w'.heap.size w' A xss := (h.below hb).more hb.size
theorem Nest.at_ {B : Nat} {w : World} {A : Option Addr} {xss : List (List Int)} (h : Nest B w A xss) {k : Nat} (hk : k < xss.length) : ∃ b o, A = some ⟨b, o, none⟩ ∧ b < B ∧ ∃ A' c, w.cell? ⟨b, o + k, none⟩ = some (.slice A' xss[k].length c) ∧ Ints B w A' xss[k] := by
  obtain ⟨b, o, e, hb, hc⟩ := h (by omega)
  exact ⟨b, o, e, hb, hc k hk⟩
theorem Ints.setCell {B : Nat} {w : World} {A : Option Addr} {xs : List Int} (h : Ints B w A xs) {p : Addr} {v : Value} (hne : ∀ ad, A = some ad → ad.block ≠ p.block) : Ints B (w.setCell p v) A xs := by
  intro hn
  obtain ⟨ad, e, hlt, hc⟩ := h hn
  refine ⟨ad, e, hlt, fun k hk => ?_⟩
  rw [World.cell?_setCell_other _ _ _ _ (fun e' => hne ad e (by rw [← block_add ad k]; exact (congrArg Addr.block e').symm))]
  exact hc k hk
/-- As 'Nest', and all of it in blocks from L on. -/
def NestL (L B : Nat) (w : World) (A : Option Addr) (xss : List (List Int)) : Prop :=
  0 < xss.length → ∃ b o, A = some ⟨b, o, none⟩ ∧ L ≤ b ∧ b < B ∧ ∀ k (h : k < xss.length), ∃ A' c, w.cell? ⟨b, o + k, none⟩ = some (.slice A' xss[k].length c) ∧ Ints B w A' xss[k] ∧ ∀ ad, A' = some ad → L ≤ ad.block
theorem NestL.nest {L B : Nat} {w : World} {A : Option Addr} {xss : List (List Int)} (h : NestL L B w A xss) : Nest B w A xss := by
  intro hn
  obtain ⟨b, o, e, _, hlt, hc⟩ := h hn
  refine ⟨b, o, e, hlt, fun k hk => ?_⟩
  obtain ⟨A', c, h1, h2, _⟩ := hc k hk
  exact ⟨A', c, h1, h2⟩
theorem NestL.later {L : Nat} {w w' : World} {A : Option Addr} {xss : List (List Int)} (h : NestL L w.heap.size w A xss) (hb : Below w.heap.size w w') : NestL L w'.heap.size w' A xss := by
  intro hn
  obtain ⟨b, o, e, hl, hlt, hc⟩ := h hn
  refine ⟨b, o, e, hl, Nat.lt_of_lt_of_le hlt hb.size, fun k hk => ?_⟩
  obtain ⟨A', c, h1, h2, h3⟩ := hc k hk
  exact ⟨A', c, (hb.cell (p := ⟨b, o + k, none⟩) hlt).trans h1, (h2.below hb).more hb.size, h3⟩
theorem NestL.less {L L' B : Nat} {w : World} {A : Option Addr} {xss : List (List Int)} (h : NestL L B w A xss) (hL : L' ≤ L) : NestL L' B w A xss := by
  intro hn
  obtain ⟨b, o, e, hl, hlt, hc⟩ := h hn
  refine ⟨b, o, e, by omega, hlt, fun k hk => ?_⟩
  obtain ⟨A', c, h1, h2, h3⟩ := hc k hk
  exact ⟨A', c, h1, h2, fun ad ha => by have := h3 ad ha; omega⟩
theorem NestL.setCell {L B : Nat} {w : World} {A : Option Addr} {xss : List (List Int)} (h : NestL L B w A xss) {p : Addr} {v : Value} (hp : p.block < L) : NestL L B (w.setCell p v) A xss := by
  intro hn
  obtain ⟨b, o, e, hl, hlt, hc⟩ := h hn
  refine ⟨b, o, e, hl, hlt, fun k hk => ?_⟩
  obtain ⟨A', c, h1, h2, h3⟩ := hc k hk
  refine ⟨A', c, ?_, Ints.setCell h2 (fun ad ha => by have := h3 ad ha; omega), h3⟩
  rw [World.cell?_setCell_other _ _ _ _ (fun e' => by have := congrArg Addr.block e'; simp at this; omega)]
  exact h1
theorem szInt64S_yes (A : Option Addr) (c n : Nat) (left : Int) (w : World) (h0 : left ≤ 1048576) (h : (n : Int) ≤ left) :
    Calls Try.prog 74 #[.slice A n c, .int .i64 left] w fun e w' => e = .returned (.int .i64 (left - n)) ∧ w = w' := by
  go_enter Try.func74, Try.ntmps74
  go_wp2
  go_ret
  exact ⟨rfl, rfl⟩
theorem szInt64S_no (A : Option Addr) (c n : Nat) (left : Int) (w : World) (h1 : 0 ≤ left) (h0 : left ≤ 1048576) (hn : n ≤ maxLen) (h : left < (n : Int)) :
    Calls Try.prog 74 #[.slice A n c, .int .i64 left] w fun e w' => e = .returned (.int .i64 (-1)) ∧ w = w' := by
  unfold maxLen at hn
  go_enter Try.func74, Try.ntmps74
  go_wp2
  go_ret
  exact ⟨rfl, rfl⟩
/-- How many numbers the first k lists hold. -/
def totLen (xss : List (List Int)) : Nat → Int | 0 => 0 | k + 1 => totLen xss k + (xss.getD k []).length
theorem totLen_nonneg (xss : List (List Int)) : ∀ k, 0 ≤ totLen xss k
  | 0 => by simp [totLen]
  | k + 1 => by have := totLen_nonneg xss k; unfold totLen; omega
theorem totLen_mono (xss : List (List Int)) : ∀ (d k : Nat), totLen xss k ≤ totLen xss (k + d)
  | 0, k => Int.le_refl _
  | d + 1, k => by have := totLen_mono xss d k; have e : totLen xss (k + (d + 1)) = totLen xss (k + d) + (xss.getD (k + d) []).length := rfl; omega
def szL (xss : List (List Int)) (left : Int) : Int := if (xss.length : Int) + totLen xss xss.length ≤ left then left - xss.length - totLen xss xss.length else -1
theorem getD_il {xss : List (List Int)} {k : Nat} (h : k < xss.length) : xss.getD k [] = xss[k] := by simp [List.getD, h]
theorem Nest.atD {B : Nat} {w : World} {A : Option Addr} {xss : List (List Int)} (h : Nest B w A xss) {k : Nat} (hk : k < xss.length) : ∃ b o, A = some ⟨b, o, none⟩ ∧ b < B ∧ ∃ A' c, w.cell? ⟨b, o + k, none⟩ = some (.slice A' (xss.getD k []).length c) ∧ Ints B w A' (xss.getD k []) := by
  rw [getD_il hk]; exact h.at_ hk
theorem szInt64SS_any (A : Option Addr) (c : Nat) (xss : List (List Int)) (left : Int) (B : Nat) (w : World) (h1 : 0 ≤ left) (h0 : left ≤ 1048576) (hn : xss.length ≤ maxLen) (hl : ∀ xs ∈ xss, xs.length ≤ maxLen) (hI : Nest B w A xss) :
    Calls Try.prog 72 #[.slice A xss.length c, .int .i64 left] w fun e w' => e = .returned (.int .i64 (szL xss left)) ∧ w = w' := by
  obtain ⟨R, hR⟩ : ∃ R, R = szL xss left := ⟨_, rfl⟩
  rw [← hR]
  have HR := Lib.hid hR
  clear hR
  have J := Lib.hid hI
  clear hI
  have HL := Lib.hid hl
  clear hl
  have HN := Lib.hid (totLen_nonneg xss)
  have hz := HN.out xss.length
  unfold maxLen at hn
  by_cases h2 : left < xss.length
  · have HF : Hid (szL xss left = -1) := Lib.hid (by unfold szL; rw [if_neg (by omega)])
    clear hz
    go_enter Try.func72, Try.ntmps72
    go_wp2
    go_ret
    exact ⟨ret_int (by rw [HR.out, HF.out]), rfl⟩
  obtain ⟨m, m1, m2, m3⟩ := first_stop (fun k => decide ((xss.length : Int) + totLen xss (k + 1) ≤ left)) xss.length
  have M2 := Lib.hid m2
  have M3 := Lib.hid m3
  clear m2 m3 hz
  go_enter Try.func72, Try.ntmps72
  go_wp2
  go_loop [1, 5] (fun s i => ∃ k : Nat, k ≤ m ∧ i = .int .i64 k ∧ s = .int .i64 (left - xss.length - totLen xss k) ∧ (xss.length : Int) + totLen xss k ≤ left) (fun _ i => xss.length - (intOf i).toNat)
  case atStart => exact ⟨0, Nat.zero_le _, rfl, by simp [totLen], by simp [totLen]; omega⟩
  case round =>
    obtain ⟨k, hk, rfl, rfl, hle⟩ := hrel
    have hz := HN.out k
    by_cases hlt : k < xss.length
    · obtain ⟨b, o, rfl, _, A', c', hc, _⟩ := J.out.atD hlt
      have hs : totLen xss (k + 1) = totLen xss k + (xss.getD k []).length := rfl
      have hlen : (xss.getD k []).length ≤ maxLen := by rw [getD_il hlt]; exact HL.out _ (List.getElem_mem hlt)
      have i0 : (0 : Int) ≤ (k : Int) := by omega
      have i1 : (k : Int) < xss.length := by omega
      have HS := Lib.hid hs
      by_cases hkm : k < m
      · have hp := of_decide_eq_true (M2.out k hkm)
        rw [hs] at hp
        generalize totLen xss k = t at *
        generalize (xss.getD k []).length = ln at *
        have HZ := Lib.hid (fun W => szInt64S_yes A' c' ln (left - xss.length - t) W (by omega) (by omega))
        clear hs hlen
        go_wp2_with (go_at_call 74; refine (HZ.out _).mono ?_; rintro e w' ⟨rfl, rfl⟩)
        go_round
        case rel => exact ⟨k + 1, by omega, by go_num, by rw [HS.out]; go_num, by rw [HS.out]; omega⟩
        case measure => simp [intOf]; omega
      · obtain rfl : m = k := by omega
        have hp := of_decide_eq_false (M3.out hlt)
        rw [hs] at hp
        have HF : Hid (szL xss left = -1) := Lib.hid (by
          unfold szL
          have h5 := totLen_mono xss (xss.length - (m + 1)) (m + 1)
          rw [show m + 1 + (xss.length - (m + 1)) = xss.length by omega] at h5
          rw [if_neg (by omega)])
        generalize totLen xss m = t at *
        generalize (xss.getD m []).length = ln at *
        have HZ := Lib.hid (fun W => szInt64S_no A' c' ln (left - xss.length - t) W (by omega) (by omega) hlen (by omega))
        clear hs hlen
        go_wp2_with (go_at_call 74; refine (HZ.out _).mono ?_; rintro e w' ⟨rfl, rfl⟩)
        go_ret
        exact ⟨ret_int (by rw [HR.out, HF.out]), rfl⟩
    · obtain rfl : k = xss.length := by omega
      have HF : Hid (szL xss left = left - xss.length - totLen xss xss.length) := Lib.hid (by unfold szL; rw [if_pos hle])
      generalize totLen xss xss.length = t at *
      go_wp2
      go_ret
      exact ⟨ret_int (by rw [HR.out, HF.out]), rfl⟩
theorem infoII : (Try.prog.info? 25).map (fun i => (i.zero, i.size, i.bytes)) = some (some (.slice none 0 0), 1, 24) := by kernel_rfl
/-- The lists that have been copied so far. -/
def Copied (g : Nat) (w : World) (zs : List Value) (xss : List (List Int)) (k : Nat) : Prop :=
  ∀ j (h : j < xss.length), j < k → ∃ A' c, zs[j]? = some (.slice A' xss[j].length c) ∧ Ints w.heap.size w A' xss[j] ∧ ∀ ad, A' = some ad → g < ad.block
set_option maxRecDepth 100000 in
theorem toInt64SS_low (A : Option Addr) (c : Nat) (xss : List (List Int)) (B : Nat) (w : World) (hn : xss.length ≤ 1048576) (hl : ∀ xs ∈ xss, xs.length ≤ 1048576) (hI : Nest B w A xss) (hB : B ≤ w.heap.size) :
    Calls Try.prog 77 #[.slice A xss.length c] w fun e w' => e = .returned (.slice (some ⟨w.heap.size, 0, none⟩) xss.length xss.length) ∧ NestL w.heap.size w'.heap.size w' (some ⟨w.heap.size, 0, none⟩) xss ∧ Below w.heap.size w w' := by
  obtain ⟨i0, hi, hz0, hz1, hz2⟩ := info_parts infoII
  have hbb : i0.bytes * xss.length ≤ 281474976710656 := by rw [hz2]; omega
  have hmx : xss.length ≤ maxLen := le_max (by omega)
  have J := Lib.hid (hI.more hB)
  have HL := Lib.hid hl
  clear hI hl
  go_enter Try.func77, Try.ntmps77
  go_wp2_with (at_make; refine wpList_make_full _ rfl (.tmp 6) (.tmp 6) 53 rfl w.heap.size 25 i0 (.slice none 0 0) 1 Try.underlying53 hi hz0 hz1 .i64 .i64 (xss.length : Int) (xss.length : Int) xss.length rfl rfl rfl rfl hbb hmx (Nat.le_refl _) ?_; intro w1 hown hgr)
  have hbe : Below w.heap.size w w1 := (Below.refl _ _).grown hgr (Nat.le_refl _) (fun k hk => by cases hk)
  have HO : ∃ zs : List Value, zs.length = xss.length ∧ (∀ z ∈ zs, z.oneCell' = true) ∧ w1.ownsRow w.heap.size 25 1 (.slice (some ⟨w.heap.size, 0, none⟩) xss.length xss.length) xss.length zs := by
    have e : (madeCells (Value.slice none 0 0).cells (xss.length * 1)).toList = List.replicate xss.length (Value.slice none 0 0) := by
      rw [Nat.mul_one]; exact toList_madeCells_one _ _
    rw [e] at hown
    exact ⟨_, by simp, fun z hz => by rw [List.eq_of_mem_replicate hz]; rfl, hown⟩
  clear hown hgr hbb hmx hi hz0 hz1 hz2
  have HH := Lib.hid HO
  clear HO
  go_wp2
  go_loopw [4] (fun i wr => ∃ k : Nat, k ≤ xss.length ∧ i = .int .i64 k ∧ Below w.heap.size w wr ∧ w.heap.size < wr.heap.size ∧ ∃ zs : List Value, zs.length = xss.length ∧ Copied w.heap.size wr zs xss k ∧ wr.ownsRow w.heap.size 25 1 (.slice (some ⟨w.heap.size, 0, none⟩) xss.length xss.length) xss.length zs) (fun i _ => xss.length - (intOf i).toNat)
  case atStart =>
    obtain ⟨zs, h1, h2, h3⟩ := HH.out
    exact ⟨0, Nat.zero_le _, rfl, hbe, (World.ownsRow.lt h3 _ rfl).2, zs, h1, fun j _ hj => by omega, h3⟩
  case round =>
    obtain ⟨k, hk, rfl, hb, hlt2, zs, hz, ht, ho⟩ := hrel
    by_cases hlt : k < xss.length
    · obtain ⟨b, o, rfl, hab, A', c', hc, hI'⟩ := (J.out.below hb).at_ hlt
      have HT := Lib.hid ht
      have HZ := Lib.hid hz
      have HO := Lib.hid ho
      have HC := Lib.hid (toInt64S_any A' c' xss[k] w.heap.size wr (HL.out _ (List.getElem_mem hlt)) hI' hb.size)
      have i0 : (0 : Int) ≤ (k : Int) := by omega
      have i1 : (k : Int) < xss.length := by omega
      clear hI' ht hz ho
      generalize hx : xss[k] = xs at *
      have HX := Lib.hid hx
      clear hx
      go_wp2_with fail
      refine HC.out.mono ?_
      rintro e w2 ⟨rfl, ho2, hb2⟩
      have hown2 := HO.out
      have hbw : Below w.heap.size w w2 := hb.trans (hb2.mono hb.size)
      have hz2 : wr.heap.size ≤ w2.heap.size := hb2.size
      have hO2 : w2.ownsRow w.heap.size 25 1 (.slice (some ⟨w.heap.size, 0, none⟩) xss.length xss.length) xss.length zs := by
        refine ⟨hown2.1, ?_⟩
        rcases hown2.2 with hn' | ⟨g, cap, cur, e1, e2, e3, rest⟩
        · exact .inl hn'
        · refine .inr ⟨g, cap, cur, e1, e2, (hb2.block g ?_).trans e3, rest⟩
          have := (World.ownsRow.lt hown2 g (by rw [e1]; rfl)).2
          exact this
      have hfz : w2.frozen? ⟨w.heap.size, k, none⟩ = false := World.ownsRow.frozenAt hO2 k
      obtain ⟨y, hold⟩ : ∃ y, w2.cell? ⟨w.heap.size, k, none⟩ = some y := by
        have := World.ownsRow.cellAt hO2 k (by omega)
        rw [List.getElem?_eq_getElem (by rw [HZ.out]; exact hlt)] at this
        exact ⟨_, this⟩
      have HO2 := Lib.hid hO2
      have HI2 := Lib.hid ho2.ints
      clear hO2 ho2 hown2
      go_wp2_with fail
      go_roundw
      case rel =>
        obtain ⟨h1, h2⟩ := World.ownsRow.stored HO2.out k (.slice (some ⟨wr.heap.size, 0, none⟩) xs.length xs.length)
        refine ⟨k + 1, by omega, by go_num, hbw.setCell (by simp) _, by simp; omega, _, by rw [List.length_set]; exact HZ.out, ?_, h1⟩
        intro j hj hj2
        by_cases e : j = k
        · subst e
          refine ⟨some ⟨wr.heap.size, 0, none⟩, xs.length, by rw [List.getElem?_set_self (by rw [HZ.out]; exact hlt), HX.out], ?_, fun ad h => by cases h; exact hlt2⟩
          rw [HX.out]
          exact Ints.setCell (by simpa using HI2.out) (fun ad h => by cases h; simp; omega)
        · obtain ⟨A1, c1, g1, g2, g3⟩ := HT.out j hj (by omega)
          refine ⟨A1, c1, by rw [List.getElem?_set_ne (Ne.symm e)]; exact g1, ?_, g3⟩
          have g4 : Ints w2.heap.size w2 A1 xss[j] := (g2.below hb2).more hz2
          exact Ints.setCell (by simpa using g4) (fun ad h => by have := g3 ad h; simp; omega)
      case measure => simp [intOf]; omega
    · obtain rfl : k = xss.length := by omega
      have HT := Lib.hid ht
      have HO := Lib.hid ho
      clear ho hz ht
      go_wp2
      go_ret
      refine ⟨rfl, fun _ => ⟨w.heap.size, 0, rfl, Nat.le_refl _, hlt2, fun k hk => ?_⟩, hb⟩
      obtain ⟨A', c', g1, g2, g3⟩ := HT.out k hk hk
      refine ⟨A', c', ?_, g2, fun ad ha => by have := g3 ad ha; omega⟩
      rw [Nat.zero_add, World.ownsRow.cellAt HO.out k (by omega)]
      exact g1
theorem toInt64SS_any (A : Option Addr) (c : Nat) (xss : List (List Int)) (B : Nat) (w : World) (hn : xss.length ≤ 1048576) (hl : ∀ xs ∈ xss, xs.length ≤ 1048576) (hI : Nest B w A xss) (hB : B ≤ w.heap.size) :
    Calls Try.prog 77 #[.slice A xss.length c] w fun e w' => e = .returned (.slice (some ⟨w.heap.size, 0, none⟩) xss.length xss.length) ∧ Nest w'.heap.size w' (some ⟨w.heap.size, 0, none⟩) xss ∧ Below w.heap.size w w' :=
  (toInt64SS_low A c xss B w hn hl hI hB).mono fun _ _ ⟨h1, h2, h3⟩ => ⟨h1, h2.nest, h3⟩
set_option maxRecDepth 100000 in
theorem eqInt64SS_yes (A A' : Option Addr) (c c' : Nat) (xss : List (List Int)) (B B' : Nat) (w : World) (hn : xss.length ≤ 1099511627776) (hl : ∀ xs ∈ xss, xs.length ≤ 1048576) (hI : Nest B w A xss) (hI' : Nest B' w A' xss) (hB : B ≤ w.heap.size) (hB' : B' ≤ w.heap.size) :
    Calls Try.prog 84 #[.slice A xss.length c, .slice A' xss.length c'] w fun e w' => e = .returned (.bool true) ∧ Below w.heap.size w w' := by
  have J := Lib.hid (hI.more hB)
  have J' := Lib.hid (hI'.more hB')
  have HL := Lib.hid hl
  clear hI hI' hl
  go_enter Try.func84, Try.ntmps84
  go_wp2
  go_loopw [5] (fun i wr => ∃ k : Nat, k ≤ xss.length ∧ i = .int .i64 k ∧ Below w.heap.size w wr) (fun i _ => xss.length - (intOf i).toNat)
  case atStart => exact ⟨0, Nat.zero_le _, rfl, Below.refl _ _⟩
  case round =>
    obtain ⟨k, hk, rfl, hb⟩ := hrel
    by_cases hlt : k < xss.length
    · obtain ⟨b, o, rfl, hab, A1, c1, d0, I1⟩ := (J.out.below hb).at_ hlt
      obtain ⟨b', o', rfl, hab', A2, c2, d1, I2⟩ := (J'.out.below hb).at_ hlt
      have hll := HL.out _ (List.getElem_mem hlt)
      generalize xss[k] = xs at *
      have HE := Lib.hid (fun L : Later wr => eqInt64S_yes A1 A2 c1 c2 xs _ _ L.world (by omega) ((I1.more hb.size).below L.below) ((I2.more hb.size).below L.below))
      have i0 : (0 : Int) ≤ (k : Int) := by omega
      have i1 : (k : Int) < xss.length := by omega
      have e0 := fun L : Later wr => L.cell d0
      have e1 := fun L : Later wr => L.cell d1
      clear d0 d1 I1 I2
      go_wp2
      refine wp_region_later (by kernel_rfl) (by kernel_rfl) ?_
      repeat (go_big_quiet_step ((go_at_call 15; first | (with_reducible exact later_b (HE.out _)) | (with_reducible exact later_d (HE.out _)) | (with_reducible exact later_s (HE.out _)))))
      refine wpQuiet_nil ?_
      intro _ hw'
      obtain ⟨LL, hw''⟩ := hw'
      subst hw''
      clear e0 e1
      have hb2 := hb.trans (LL.below.mono hb.size)
      go_wp2
      go_roundw
      case rel => exact ⟨k + 1, by omega, by go_num, hb2⟩
      case measure => simp [intOf]; omega
    · go_wp2
      go_ret
      exact ⟨rfl, hb⟩
end Go.Proofs.Ytlgagnbnjfneaaa
