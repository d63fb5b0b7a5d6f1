/- A list of one number many times over: the library's Repeat at a list of one number. Conditions: the number of times is from 1 to 16. -/
import Derived.Test.YtlgagnbnjfneaaaMul
import Derived.Test.YtlgagnbnjfneaaaRes
import Derived.Test.YtlgagnbnjfneaaaLater
import Derived.Laws.CopyOwn
import Derived.Deep.RegionLaw
import Derived.RegionTactic
import Derived.IntWalk
import Derived.BigRegion
import Derived.Outline
namespace Go.Proofs.Ytlgagnbnjfneaaa
open Go.RowKit
open Pl
theorem full_heap {w : World} {b g N : Nat} {T : TypeId} {ys : List Value} (h : w.ownsRow b T 1 (.slice (some ⟨g, 0, none⟩) N N) N ys) : w.heap[g]? = some (.cells ys.toArray T (0, 0)) := by
  rcases h.2 with ⟨h0, _⟩ | ⟨g', cap, cur, hv, _, hg, _, _, hs, ht⟩
  · cases h0
  · injection hv with e1 e2 e3
    injection e1 with e1
    injection e1 with e1
    subst e1 e3
    have e : cur.toList = ys := by rw [← ht, List.take_of_length_le (by simp; omega)]
    rw [hg, ← e]
theorem heap_own {w : World} {b g N : Nat} {zs : List Int} (h : w.heap[g]? = some (.cells (vals zs).toArray 2 (0, 0))) (hl : zs.length = N) (hb : b ≤ g) (hm : N ≤ maxLen) : Own b w (.slice (some ⟨g, 0, none⟩) N N) zs := by
  unfold Own
  refine ⟨by rw [vals_length]; omega, .inr ⟨g, N, (vals zs).toArray, by rw [hl], hb, h, by omega, hm, by simp [vals_length, hl], ?_⟩⟩
  rw [List.take_of_length_le (by simp [vals_length])]
theorem splice_vals (zs ys : List Int) (k : Nat) : splice (vals zs) k (vals ys) = vals (splice zs k ys) := by
  simp [splice, vals, List.map_take, List.map_drop]
theorem heap_cell {w : World} {g : Nat} {T : TypeId} {ys : List Value} (h : w.heap[g]? = some (.cells ys.toArray T (0, 0))) {j : Nat} {v : Value} (hv : ys[j]? = some v) : w.cell? ⟨g, j, none⟩ = some v := by
  simp [World.cell?, h, hv]
set_option maxRecDepth 100000 in
set_option maxHeartbeats 1600000 in
theorem Repeat_any (N : Nat) (c : Int) (g : Nat) (w : World) (h1 : 1 ≤ N) (h2 : N ≤ 16) (hc : w.cell? ⟨g, 0, none⟩ = some (.int .i64 c)) :
    Calls Try.prog 99 #[.slice (some ⟨g, 0, none⟩) 1 1, .int .i64 (N : Int)] w fun e w' => ∃ v, e = .returned v ∧ Own w.heap.size w' v (List.replicate N c) ∧ Below w.heap.size w w' := by
  have HM := Lib.hid (fun W => Mul_small N W h1 h2)
  have hn0 : ¬ (N : Int) < 0 := by omega
  have hn1 : decide ((9223372036854775807 : Int) < (N : Int)) = false := decide_eq_false (by omega)
  obtain ⟨i0, hi, hz0, hz1, hz2⟩ := info_parts infoI
  have hbb : i0.bytes * N ≤ 281474976710656 := by rw [hz2]; omega
  have hmx : N ≤ maxLen := le_max (by omega)
  have HMX := Lib.hid hmx
  have HW : Hid (∀ w1, w1.ownsRow w.heap.size 2 1 (.slice (some ⟨w.heap.size, 0, none⟩) N N) N (madeCells (Value.int .i64 0).cells (N * 1)).toList → w.grownBy w1 none → w1.heap[w.heap.size]? = some (.cells (vals (List.replicate N 0)).toArray 2 (0, 0)) ∧ Below w.heap.size w w1 ∧ w1.cell? ⟨g, 0, none⟩ = some (.int .i64 c)) := Lib.hid (by
    intro w1 hown hgr
    have hb : Below w.heap.size w w1 := (Below.refl w.heap.size w).grown hgr (Nat.le_refl _) (fun k hk => by cases hk)
    have e : (madeCells (Value.int .i64 0).cells (N * 1)).toList = vals (List.replicate N (0 : Int)) := by
      rw [Nat.mul_one]
      unfold vals
      rw [List.map_replicate]
      exact toList_madeCells_one _ _
    rw [e] at hown
    exact ⟨full_heap hown, hb, cell_later hb hc⟩)
  have H2 : Hid (vals (splice (List.replicate N 0) 0 [c]) = splice (vals (List.replicate N 0)) 0 [.int .i64 c]) := Lib.hid (by rw [show [Value.int .i64 c] = vals [c] from rfl, splice_vals])
  have hvl : (vals (List.replicate N 0)).length = N := by rw [vals_length, List.length_replicate]
  have HVL := Lib.hid hvl
  clear hvl
  go_enter Try.func99, Try.ntmps99
  go_wp2_with (first | (go_at_call 146; refine (HM.out _).mono ?_; rintro e w' ⟨rfl, rfl⟩) | (at_make; refine wpList_make_full _ rfl (.tmp 29) (.tmp 29) 25 rfl w.heap.size 2 i0 (.int .i64 0) 1 Try.underlying25 hi hz0 hz1 .i64 .i64 (N : Int) (N : Int) N rfl rfl rfl rfl hbb hmx (Nat.le_refl _) ?_; intro w1 hown hgr; obtain ⟨hh, hbe1, hc1⟩ := HW.out w1 hown hgr; have HH := Lib.hid hh; clear hown hgr hh) | (refine wpList_copy_splice (o := ⟨some 33, _, _, _, _, _⟩) rfl (.tmp 31) (.tmp 32) 25 25 rfl 2 Try.underlying25 (by kernel_rfl) (some ⟨w.heap.size, 0, none⟩) (some ⟨g, 0, none⟩) N N 1 1 rfl rfl w.heap.size 0 (vals (List.replicate N 0)) 2 HH.out [.int .i64 c] ?d1 ?d2 ?d3 ?d4 w.heap.size w hbe1 (Nat.le_refl _) ?_))
  case d1 => show 1 = min 1 N; omega
  case d2 =>
    intro j v hj
    cases j with
    | zero => simp at hj; subst hj; exact hc1
    | succ j => simp at hj
  case d3 => rw [HVL.out]; show 0 + 1 ≤ N; omega
  case d4 => intro v hv; simp at hv; subst hv; rfl
  intro w2 HG2 hbe2
  have HZ : Hid (∃ zs : List Int, zs.length = N ∧ zs.take 1 = List.replicate 1 c ∧ w2.heap[w.heap.size]? = some (.cells (vals zs).toArray 2 (0, 0))) := Lib.hid (by
    refine ⟨splice (List.replicate N 0) 0 [c], ?_, ?_, ?_⟩
    · rw [length_splice _ _ _ (by simp; omega)]; simp
    · simp [splice]
    · rw [H2.out]; exact HG2.out)
  clear hc1 HH HG2 H2 HVL HW
  go_wp2
  go_loopw [8] (fun nn wr => ∃ n : Nat, 1 ≤ n ∧ n ≤ N ∧ nn = .int .i64 n ∧ Below w.heap.size w wr ∧ ∃ zs : List Int, zs.length = N ∧ zs.take n = List.replicate n c ∧ wr.heap[w.heap.size]? = some (.cells (vals zs).toArray 2 (0, 0))) (fun nn _ => N - (intOf nn).toNat)
  case atStart => obtain ⟨zs, a, b, d⟩ := HZ.out; exact ⟨1, by omega, h1, rfl, hbe2, zs, a, b, d⟩
  case round =>
    obtain ⟨n, n1, n2, rfl, hb, zs, hl, ht, hh⟩ := hrel
    by_cases hlt : n < N
    · have m1 : 1 ≤ min n (N - n) := by omega
      have m2 : n + min n (N - n) ≤ N := by omega
      have HX : Hid (vals (List.replicate (min n (N - n)) c) = (List.replicate (min n (N - n)) c).map (Value.int .i64) ∧ (vals (List.replicate (min n (N - n)) c)).length = min n (N - n)) := Lib.hid ⟨rfl, by rw [vals_length, List.length_replicate]⟩
      have HC : Hid (∀ (j : Nat) v, (vals (List.replicate (min n (N - n)) c))[j]? = some v → wr.cell? ((⟨w.heap.size, 0, none⟩ : Addr).add j) = some v) := Lib.hid (by
        intro j v hj
        rw [Addr.add_lit, Nat.zero_add]
        obtain ⟨hj', _⟩ := List.getElem?_eq_some_iff.1 hj
        rw [vals_length, List.length_replicate] at hj'
        rw [vals_get (by rw [List.length_replicate]; exact hj')] at hj
        injection hj with hj
        subst hj
        refine heap_cell hh ?_
        rw [vals_get (by omega)]
        have e : (zs.take n)[j]? = (List.replicate n c)[j]? := by rw [ht]
        rw [List.getElem?_take, if_pos (by omega), List.getElem?_eq_getElem (by omega), List.getElem?_eq_getElem (by rw [List.length_replicate]; omega)] at e
        injection e with e
        rw [e]
        simp)
      have HH := Lib.hid hh
      have HL := Lib.hid hl
      have HT := Lib.hid ht
      have HO : Hid (∀ v ∈ vals (List.replicate (min n (N - n)) c), v.oneCell' = true) := Lib.hid (by
        intro v hv
        unfold vals at hv
        obtain ⟨x, _, rfl⟩ := List.mem_map.1 hv
        rfl)
      have hNn : ¬ N = n := by omega
      have hcl : (vals (List.replicate (min n (N - n)) c)).length = min n (N - n) := by rw [vals_length, List.length_replicate]
      have HCL := Lib.hid hcl
      have hwr : IntKind.i64.wrap ((n : Int) + ((vals (List.replicate (min n (N - n)) c)).length : Int)) = ((n + min n (N - n) : Nat) : Int) := by rw [hcl, IntWalk.i64_in _ (by omega)]; omega
      clear hh hl ht hcl
      go_wp2
      go_region_law (refine step_copy_splice (by rfl) (.tmp 41) (.tmp 44) 25 25 (by rfl) 2 Try.underlying25 (by kernel_rfl) (some ⟨w.heap.size, n, none⟩) (some ⟨w.heap.size, 0, none⟩) (N - n) (N - n) n N (by go_simp) (by go_simp) w.heap.size n (vals zs) 2 HH.out (vals (List.replicate (min n (N - n)) c)) HX.out.2 (fun _ => ⟨rfl, ⟨w.heap.size, 0, none⟩, rfl, HC.out⟩) (by rw [HX.out.2, vals_length, HL.out]; exact m2) HO.out w.heap.size w hb.drew (Nat.le_refl _) ?_; intro w4 HG4 hb4)
      go_simp
      go_wp2
      go_roundw
      case rel =>
        refine ⟨n + min n (N - n), by omega, m2, by rw [Int.natCast_add], hb4, splice zs n (List.replicate (min n (N - n)) c), ?_, ?_, ?_⟩
        · rw [length_splice _ _ _ (by rw [List.length_replicate, HL.out]; exact m2)]; exact HL.out
        · unfold splice
          rw [HT.out, ← List.append_assoc, List.replicate_append_replicate, List.take_append_of_le_length (by simp), List.take_of_length_le (by simp)]
        · have h := HG4.out
          rw [splice_vals] at h
          exact h
      case measure => simp [intOf]; omega
    · obtain rfl : n = N := by omega
      have HH : Hid (Own w.heap.size wr (.slice (some ⟨w.heap.size, 0, none⟩) n n) (List.replicate n c)) := Lib.hid (by
        have e : zs = List.replicate n c := by rw [← ht, List.take_of_length_le (by omega)]
        rw [← e]
        exact heap_own hh hl (Nat.le_refl _) HMX.out)
      clear hh hl ht
      go_wp2
      go_ret
      exact ⟨_, rfl, HH.out, hb⟩
end Go.Proofs.Ytlgagnbnjfneaaa
