/- Lists of a struct of a string and 3 numbers (Door): what one is in memory; the laws' own functions on them: copies, comparisons, sizes, marks; how an argument of that shape opens. Conditions: the lengths that each theorem names. Printed by gen_rec.py. -/
import Derived.Test.YtlgagnbnjfneaaaAirs
import Derived.Test.YtlgagnbnjfneaaaFrame5
import Derived.Test.YtlgagnbnjfneaaaMark
namespace Go.Proofs.Ytlgagnbnjfneaaa
open Go.RowKit
open Pl
structure Do where
  id : ByteArray
  i0 : Int
  i1 : Int
  i2 : Int
def encDo (a : Do) : List Value := [.string a.id, .int .i64 a.i0, .int .i64 a.i1, .int .i64 a.i2]
theorem encDo_len (a : Do) : (encDo a).length = 4 := rfl
def nDo : Do := ⟨ByteArray.empty, 0, 0, 0⟩
theorem Recs.cellsDo {B : Nat} {w : World} {A : Option Addr} {xs : List Do} (h : Recs encDo 4 B w A xs) {j : Nat} (hj : j < xs.length) {s : ByteArray} {x0 x1 x2 : Int} (e : xs.getD j nDo = ⟨s, x0, x1, x2⟩) : ∃ b o, A = some ⟨b, o, none⟩ ∧ b < B ∧ w.cell? ⟨b, o + j * 4, none⟩ = some (.string s) ∧ w.cell? ⟨b, o + j * 4 + 1, none⟩ = some (.int .i64 x0) ∧ w.cell? ⟨b, o + j * 4 + 2, none⟩ = some (.int .i64 x1) ∧ w.cell? ⟨b, o + j * 4 + 3, none⟩ = some (.int .i64 x2) := by
  obtain ⟨b, o, ea, hb, hc⟩ := h.at_ hj
  have e' : xs[j] = ⟨s, x0, x1, x2⟩ := by rw [← e]; simp [List.getD, hj]
  rw [e'] at hc
  exact ⟨b, o, ea, hb, hc 0 _ rfl, hc 1 _ rfl, hc 2 _ rfl, hc 3 _ rfl⟩
theorem flatDo_set (a : Do) : ∀ (zs : List Do) (j : Nat), j < zs.length → (((((zs.flatMap encDo).set (j * 4) (.string a.id)).set (j * 4 + 1) (.int .i64 a.i0)).set (j * 4 + 2) (.int .i64 a.i1)).set (j * 4 + 3) (.int .i64 a.i2)) = (zs.set j a).flatMap encDo
  | z :: zs, 0, _ => by simp [encDo]
  | z :: zs, j + 1, h => by
    have ih := flatDo_set a zs j (by simpa using h)
    rw [show (j + 1) * 4 = j * 4 + 4 by omega]
    simp only [List.flatMap_cons, List.set_cons_succ, encDo, List.cons_append, List.nil_append]
    have e := congrArg (fun l => Value.string z.id :: Value.int .i64 z.i0 :: Value.int .i64 z.i1 :: Value.int .i64 z.i2 :: l) ih
    exact e
theorem madeDo (n : Nat) : (madeCells #[.string ByteArray.empty, .int .i64 0, .int .i64 0, .int .i64 0] (n * 4)).toList = (List.replicate n nDo).flatMap encDo := by
  unfold madeCells
  rw [Array.toList_map, Array.toList_range]
  induction n with
  | zero => rfl
  | succ n ih =>
    rw [show (n + 1) * 4 = n * 4 + 1 + 1 + 1 + 1 by omega, List.range_succ, List.range_succ, List.range_succ, List.range_succ, List.replicate_succ', List.flatMap_append]
    simp only [List.map_append, List.append_assoc]
    rw [ih]
    congr 1
    simp [encDo, nDo, Nat.add_mod]
theorem flatDo_cell {zs : List Do} {k j : Nat} (hk : k < zs.length) (hj : j < 4) : ∃ y, (zs.flatMap encDo)[k * 4 + j]? = some y := by
  rw [flat_get encDo_len zs k j hk hj]
  exact ⟨_, List.getElem?_eq_getElem (by rw [encDo_len]; exact hj)⟩
theorem toDoor_any (s : ByteArray) (x0 x1 x2 : Int) (w : World) :
    Calls Try.prog 129 #[.agg #[.string s, .int .i64 x0, .int .i64 x1, .int .i64 x2]] w fun e w' => e = .returned (.agg #[.string s, .int .i64 x0, .int .i64 x1, .int .i64 x2]) ∧ Below w.heap.size w w' := by
  go_enter Try.func129, Try.ntmps129
  go_wp2
  go_returns
  exact ⟨rfl, by go_grown⟩
theorem infoDo : (Try.prog.info? 147).map (fun i => (i.zero, i.size, i.bytes)) = some (some (.agg #[.string ByteArray.empty, .int .i64 0, .int .i64 0, .int .i64 0]), 4, 40) := by kernel_rfl
set_option maxRecDepth 100000 in
set_option maxHeartbeats 800000 in
theorem toDoorS_any (A : Option Addr) (c : Nat) (xs : List Do) (B : Nat) (w : World) (hn : xs.length ≤ 1048576) (hI : Recs encDo 4 B w A xs) (hB : B ≤ w.heap.size) :
    Calls Try.prog 76 #[.slice A xs.length c] w fun e w' => e = .returned (.slice (some ⟨w.heap.size, 0, none⟩) xs.length xs.length) ∧ OwnR 147 encDo 4 w.heap.size w' (.slice (some ⟨w.heap.size, 0, none⟩) xs.length xs.length) xs ∧ Below w.heap.size w w' := by
  obtain ⟨i0, hi, hz0, hz1, hz2⟩ := info_parts infoDo
  have hbb : i0.bytes * xs.length ≤ 281474976710656 := by rw [hz2]; omega
  have hmx : xs.length ≤ maxLen := le_max (by omega)
  have HD := Lib.hid (fun (s : ByteArray) (x0 x1 x2 : Int) W => toDoor_any s x0 x1 x2 W)
  go_enter Try.func76, Try.ntmps76
  go_wp2_with (at_make; refine wpList_make_full _ rfl (.tmp 6) (.tmp 6) 59 rfl w.heap.size 147 i0 (.agg #[.string ByteArray.empty, .int .i64 0, .int .i64 0, .int .i64 0]) 4 Try.underlying59 hi hz0 hz1 .i64 .i64 (xs.length : Int) (xs.length : Int) xs.length rfl rfl rfl rfl hbb hmx (Nat.le_refl _) ?_; intro w1 hown hgr)
  have hbe : Below w.heap.size w w1 := (Below.refl _ _).grown hgr (Nat.le_refl _) (fun k hk => by cases hk)
  have HO : ∃ zs : List Do, zs.length = xs.length ∧ zs.take 0 = xs.take 0 ∧ w1.ownsRow w.heap.size 147 4 (.slice (some ⟨w.heap.size, 0, none⟩) xs.length xs.length) xs.length (zs.flatMap encDo) := by
    refine ⟨List.replicate xs.length nDo, by simp, by simp, ?_⟩
    rw [← madeDo]
    exact hown
  clear hown hgr hbb hmx hi hz0 hz1 hz2
  have HH := Lib.hid HO
  clear HO
  go_wp2
  go_loopw [4] (fun i wr => ∃ k : Nat, k ≤ xs.length ∧ i = .int .i64 k ∧ Below w.heap.size w wr ∧ w.heap.size < wr.heap.size ∧ ∃ zs : List Do, zs.length = xs.length ∧ zs.take k = xs.take k ∧ wr.ownsRow w.heap.size 147 4 (.slice (some ⟨w.heap.size, 0, none⟩) xs.length xs.length) xs.length (zs.flatMap encDo)) (fun i _ => xs.length - (intOf i).toNat)
  case atStart =>
    obtain ⟨zs, h1, h2, h3⟩ := HH.out
    exact ⟨0, Nat.zero_le _, rfl, hbe, (World.ownsRow.lt h3 _ rfl).2, zs, h1, h2, h3⟩
  case round =>
    obtain ⟨k, hk, rfl, hb, hlt2, zs, hz, ht, ho⟩ := hrel
    by_cases hlt : k < xs.length
    · obtain ⟨⟨ya, y0, y1, y2⟩, hx⟩ : ∃ x, xs.getD k nDo = x := ⟨_, rfl⟩
      obtain ⟨b, o, rfl, hab, c0, c1, c2, c3⟩ := ((hI.more hB).below hb).cellsDo hlt hx
      have HO := Lib.hid ho
      have HZ := Lib.hid hz
      have HT := Lib.hid ht
      have HX : Hid (xs[k] = ⟨ya, y0, y1, y2⟩) := Lib.hid (by rw [← hx]; simp [List.getD, hlt])
      clear ho hz ht hx
      have j0 : (0 : Int) ≤ (k : Int) := by omega
      have j1 : (k : Int) < xs.length := by omega
      go_wp2_with fail
      refine (HD.out _ _ _ _ _).mono ?_
      rintro e w2 ⟨rfl, hb2⟩
      have hO2 := (show OwnR 147 encDo 4 w.heap.size wr (.slice (some ⟨w.heap.size, 0, none⟩) xs.length xs.length) zs by unfold OwnR; rw [HZ.out]; exact HO.out).later hb2
      unfold OwnR at hO2
      rw [HZ.out] at hO2
      have hkz : k < zs.length := by rw [HZ.out]; exact hlt
      obtain ⟨q0, e0⟩ := flatDo_cell (j := 0) hkz (by omega)
      obtain ⟨q1, e1⟩ := flatDo_cell (j := 1) hkz (by omega)
      obtain ⟨q2, e2⟩ := flatDo_cell (j := 2) hkz (by omega)
      obtain ⟨q3, e3⟩ := flatDo_cell (j := 3) hkz (by omega)
      have d0 := (World.ownsRow.cellAt hO2 (k * 4) (by omega)).trans e0
      have d1 := (World.ownsRow.cellAt hO2 (k * 4 + 1) (by omega)).trans e1
      have d2 := (World.ownsRow.cellAt hO2 (k * 4 + 2) (by omega)).trans e2
      have d3 := (World.ownsRow.cellAt hO2 (k * 4 + 3) (by omega)).trans e3
      have f0 := World.ownsRow.frozenAt hO2 (k * 4)
      have f1 := World.ownsRow.frozenAt hO2 (k * 4 + 1)
      have f2 := World.ownsRow.frozenAt hO2 (k * 4 + 2)
      have f3 := World.ownsRow.frozenAt hO2 (k * 4 + 3)
      have HO2 := Lib.hid hO2
      have hbb := hb.trans (hb2.mono hb.size)
      have hz2 : w.heap.size < w2.heap.size := by have := hb2.size; omega
      clear e0 e1 e2 e3 hO2 hkz c0 c1 c2 c3
      go_wp2_with fail
      go_roundw
      case rel =>
        obtain ⟨r0, _⟩ := World.ownsRow.stored HO2.out (k * 4) (.string ya)
        obtain ⟨r1, _⟩ := World.ownsRow.stored r0 (k * 4 + 1) (.int .i64 y0)
        obtain ⟨r2, _⟩ := World.ownsRow.stored r1 (k * 4 + 2) (.int .i64 y1)
        obtain ⟨r3, _⟩ := World.ownsRow.stored r2 (k * 4 + 3) (.int .i64 y2)
        rw [flatDo_set ⟨ya, y0, y1, y2⟩ zs k (by rw [HZ.out]; exact hlt)] at r3
        refine ⟨k + 1, by omega, by go_num, ((((hbb).setCell (by simp) _).setCell (by simp) _).setCell (by simp) _).setCell (by simp) _, by simpa using hz2, zs.set k ⟨ya, y0, y1, y2⟩, by rw [List.length_set]; exact HZ.out, ?_, r3⟩
        rw [← HX.out]
        exact take_set_succ' HZ.out hlt HT.out
      case measure => simp [intOf]; omega
    · obtain rfl : k = xs.length := by omega
      have HE := Lib.hid (take_all_eq' hz ht)
      have HO := Lib.hid ho
      clear ho hz ht
      go_wp2
      go_ret
      refine ⟨rfl, ?_, hb⟩
      have h := HO.out
      rw [HE.out] at h
      exact h
theorem szDoor_yes (s : ByteArray) (x0 x1 x2 : Int) (left : Int) (w : World) (h0 : left ≤ 1048576) (h : s.size ≤ left) :
    Calls Try.prog 122 #[.agg #[.string s, .int .i64 x0, .int .i64 x1, .int .i64 x2], .int .i64 left] w fun e w' => e = .returned (.int .i64 (left - s.size)) ∧ Below w.heap.size w w' := by
  go_enter Try.func122, Try.ntmps122
  go_wp2
  go_ret
  exact ⟨rfl, by go_grown⟩
theorem szDoor_no (s : ByteArray) (x0 x1 x2 : Int) (left : Int) (w : World) (h0 : 0 ≤ left) (h1 : left ≤ 1048576) (hs : s.size ≤ maxLen) (h : left < s.size) :
    Calls Try.prog 122 #[.agg #[.string s, .int .i64 x0, .int .i64 x1, .int .i64 x2], .int .i64 left] w fun e w' => e = .returned (.int .i64 (-1)) ∧ Below w.heap.size w w' := by
  unfold maxLen at hs
  go_enter Try.func122, Try.ntmps122
  go_wp2
  go_ret
  exact ⟨rfl, by go_grown⟩
def idLenDo (xs : List Do) : Nat → Int | 0 => 0 | k + 1 => idLenDo xs k + (xs.getD k nDo).id.size
theorem idLenDo_nonneg (xs : List Do) : ∀ k, 0 ≤ idLenDo xs k
  | 0 => by simp [idLenDo]
  | k + 1 => by have := idLenDo_nonneg xs k; unfold idLenDo; omega
theorem idLenDo_mono (xs : List Do) : ∀ (d k : Nat), idLenDo xs k ≤ idLenDo xs (k + d)
  | 0, k => Int.le_refl _
  | d + 1, k => by have := idLenDo_mono xs d k; have e : idLenDo xs (k + (d + 1)) = idLenDo xs (k + d) + (xs.getD (k + d) nDo).id.size := rfl; omega
def szDo (xs : List Do) (left : Int) : Int := if (xs.length : Int) + idLenDo xs xs.length ≤ left then left - xs.length - idLenDo xs xs.length else -1
/-- All names are strings of a length that can be, all numbers fit. -/
def FitsDo (xs : List Do) : Prop := ∀ x ∈ xs, x.id.size ≤ maxLen ∧ (-9223372036854775808 ≤ x.i0 ∧ x.i0 ≤ 9223372036854775807) ∧ (-9223372036854775808 ≤ x.i1 ∧ x.i1 ≤ 9223372036854775807) ∧ (-9223372036854775808 ≤ x.i2 ∧ x.i2 ≤ 9223372036854775807)
theorem FitsDo.id {xs : List Do} (h : FitsDo xs) (k : Nat) : (xs.getD k nDo).id.size ≤ maxLen := by
  by_cases hk : k < xs.length
  · rw [show xs.getD k nDo = xs[k] by simp [List.getD, hk]]; exact (h _ (List.getElem_mem hk)).1
  · rw [show xs.getD k nDo = nDo by simp [List.getD, List.getElem?_eq_none (by omega : xs.length ≤ k)]]; exact Nat.zero_le _
theorem szDo_or (xs : List Do) (left : Int) (h : left ≤ 1048576) : szDo xs left = -1 ∨ (0 ≤ szDo xs left ∧ szDo xs left ≤ left ∧ (xs.length : Int) ≤ 1048576) := by
  have := idLenDo_nonneg xs xs.length
  unfold szDo
  split
  · exact .inr (by omega)
  · exact .inl rfl
set_option maxRecDepth 100000 in
theorem szDoorS_any (A : Option Addr) (c : Nat) (xs : List Do) (left : Int) (B : Nat) (w : World) (h1 : 0 ≤ left) (h0 : left ≤ 1048576) (hn : xs.length ≤ maxLen) (hF : FitsDo xs) (hI : Recs encDo 4 B w A xs) (hB : B ≤ w.heap.size) :
    Calls Try.prog 71 #[.slice A xs.length c, .int .i64 left] w fun e w' => e = .returned (.int .i64 (szDo xs left)) ∧ Below w.heap.size w w' := by
  obtain ⟨R, hR⟩ : ∃ R, R = szDo xs left := ⟨_, rfl⟩
  rw [← hR]
  have HR := Lib.hid hR
  clear hR
  have J := Lib.hid (hI.more hB)
  clear hI
  have HL := Lib.hid hF.id
  clear hF
  have HN := Lib.hid (idLenDo_nonneg xs)
  have hz := HN.out xs.length
  unfold maxLen at hn
  by_cases h2 : left < xs.length
  · have HF : Hid (szDo xs left = -1) := Lib.hid (by unfold szDo; rw [if_neg (by omega)])
    clear hz
    go_enter Try.func71, Try.ntmps71
    go_wp2
    go_ret
    exact ⟨ret_int (by rw [HR.out, HF.out]), Below.refl _ _⟩
  obtain ⟨m, m1, m2, m3⟩ := first_stop (fun k => decide ((xs.length : Int) + idLenDo xs (k + 1) ≤ left)) xs.length
  have M2 := Lib.hid m2
  have M3 := Lib.hid m3
  clear m2 m3 hz
  go_enter Try.func71, Try.ntmps71
  go_wp2
  go_loopw [1, 5] (fun s i wr => ∃ k : Nat, k ≤ m ∧ i = .int .i64 k ∧ s = .int .i64 (left - xs.length - idLenDo xs k) ∧ (xs.length : Int) + idLenDo xs k ≤ left ∧ Below w.heap.size w wr) (fun _ i _ => xs.length - (intOf i).toNat)
  case atStart => exact ⟨0, Nat.zero_le _, rfl, by simp [idLenDo], by simp [idLenDo]; omega, Below.refl _ _⟩
  case round =>
    obtain ⟨k, hk, rfl, rfl, hle, hb⟩ := hrel
    have hz := HN.out k
    by_cases hlt : k < xs.length
    · obtain ⟨⟨ya, y0, y1, y2⟩, hx⟩ : ∃ x, xs.getD k nDo = x := ⟨_, rfl⟩
      obtain ⟨b, o, rfl, hab, c0, c1, c2, c3⟩ := (J.out.below hb).cellsDo hlt hx
      have hs : idLenDo xs (k + 1) = idLenDo xs k + ya.size := by rw [idLenDo, hx]
      have hlen : ya.size ≤ maxLen := by have := HL.out k; rw [hx] at this; exact this
      have j0 : (0 : Int) ≤ (k : Int) := by omega
      have j1 : (k : Int) < xs.length := by omega
      have HS := Lib.hid hs
      by_cases hkm : k < m
      · have hp := of_decide_eq_true (M2.out k hkm)
        rw [hs] at hp
        generalize idLenDo xs k = tl at *
        have HZ := Lib.hid (fun W => szDoor_yes ya y0 y1 y2 (left - xs.length - tl) W (by omega) (by omega))
        clear hs hlen hx
        go_wp2_with (go_at_call 122; refine (HZ.out _).mono ?_; rintro e w' ⟨rfl, hb2⟩)
        go_roundw
        case rel => exact ⟨k + 1, by omega, by go_num, by rw [HS.out]; go_num, by rw [HS.out]; omega, hb.trans (hb2.mono hb.size)⟩
        case measure => simp [intOf]; omega
      · obtain rfl : m = k := by omega
        have hp := of_decide_eq_false (M3.out hlt)
        rw [hs] at hp
        have HF : Hid (szDo xs left = -1) := Lib.hid (by
          unfold szDo
          have h5 := idLenDo_mono xs (xs.length - (m + 1)) (m + 1)
          rw [show m + 1 + (xs.length - (m + 1)) = xs.length by omega] at h5
          rw [if_neg (by omega)])
        generalize idLenDo xs m = tl at *
        have HZ := Lib.hid (fun W => szDoor_no ya y0 y1 y2 (left - xs.length - tl) W (by omega) (by omega) hlen (by omega))
        clear hs hlen hx
        go_wp2_with (go_at_call 122; refine (HZ.out _).mono ?_; rintro e w' ⟨rfl, hb2⟩)
        go_ret
        exact ⟨ret_int (by rw [HR.out, HF.out]), hb.trans (hb2.mono hb.size)⟩
    · obtain rfl : k = xs.length := by omega
      have HF : Hid (szDo xs left = left - xs.length - idLenDo xs xs.length) := Lib.hid (by unfold szDo; rw [if_pos hle])
      generalize idLenDo xs xs.length = tl at *
      go_wp2
      go_ret
      exact ⟨ret_int (by rw [HR.out, HF.out]), hb⟩
theorem eqDoor_yes (s : ByteArray) (x0 x1 x2 : Int) (w : World) :
    Calls Try.prog 138 #[.agg #[.string s, .int .i64 x0, .int .i64 x1, .int .i64 x2], .agg #[.string s, .int .i64 x0, .int .i64 x1, .int .i64 x2]] w fun e w' => e = .returned (.bool true) ∧ Below w.heap.size w w' := by
  go_enter Try.func138, Try.ntmps138
  go_wp2
  go_ret
  exact ⟨rfl, by go_grown⟩
set_option maxRecDepth 100000 in
set_option maxHeartbeats 800000 in
theorem eqDoorS_yes (A A' : Option Addr) (c c' : Nat) (xs : List Do) (B B' : Nat) (w : World) (hn : xs.length ≤ 1099511627776) (hI : Recs encDo 4 B w A xs) (hI' : Recs encDo 4 B' w A' xs) (hB : B ≤ w.heap.size) (hB' : B' ≤ w.heap.size) :
    Calls Try.prog 83 #[.slice A xs.length c, .slice A' xs.length c'] w fun e w' => e = .returned (.bool true) ∧ Below w.heap.size w w' := by
  have J := Lib.hid (hI.more hB)
  have J' := Lib.hid (hI'.more hB')
  clear hI hI'
  go_enter Try.func83, Try.ntmps83
  go_wp2
  go_loopw [5] (fun i wr => ∃ k : Nat, k ≤ xs.length ∧ i = .int .i64 k ∧ Below w.heap.size w wr) (fun i _ => xs.length - (intOf i).toNat)
  case atStart => exact ⟨0, Nat.zero_le _, rfl, Below.refl _ _⟩
  case round =>
    obtain ⟨k, hk, rfl, hb⟩ := hrel
    by_cases hlt : k < xs.length
    · obtain ⟨⟨ya, y0, y1, y2⟩, hx⟩ : ∃ x, xs.getD k nDo = x := ⟨_, rfl⟩
      obtain ⟨b, o, rfl, hab, c0, c1, c2, c3⟩ := (J.out.below hb).cellsDo hlt hx
      obtain ⟨b', o', rfl, hab', d0, d1, d2, d3⟩ := (J'.out.below hb).cellsDo hlt hx
      have HE := Lib.hid (eqDoor_yes ya y0 y1 y2)
      have j0 : (0 : Int) ≤ (k : Int) := by omega
      have j1 : (k : Int) < xs.length := by omega
      have e0 := fun L : Later wr => L.cell c0
      have e1 := fun L : Later wr => L.cell c1
      have e2 := fun L : Later wr => L.cell c2
      have e3 := fun L : Later wr => L.cell c3
      have g0 := fun L : Later wr => L.cell d0
      have g1 := fun L : Later wr => L.cell d1
      have g2 := fun L : Later wr => L.cell d2
      have g3 := fun L : Later wr => L.cell d3
      clear c0 c1 c2 c3 d0 d1 d2 d3 hx
      go_wp2
      refine wp_region_later (by kernel_rfl) (by kernel_rfl) ?_
      repeat (go_big_quiet_step ((go_at_call 138; first | (with_reducible exact later_b (HE.out _)) | (with_reducible exact later_d (HE.out _)) | (with_reducible exact later_s (HE.out _)))))
      refine wpQuiet_nil ?_
      intro _ hw'
      obtain ⟨LL, hw''⟩ := hw'
      subst hw''
      clear e0 e1 e2 e3 g0 g1 g2 g3
      have hb2 := hb.trans (LL.below.mono hb.size)
      go_wp2
      go_roundw
      case rel => exact ⟨k + 1, by omega, by go_num, hb2⟩
      case measure => simp [intOf]; omega
    · go_wp2
      go_ret
      exact ⟨rfl, hb⟩
end Go.Proofs.Ytlgagnbnjfneaaa
