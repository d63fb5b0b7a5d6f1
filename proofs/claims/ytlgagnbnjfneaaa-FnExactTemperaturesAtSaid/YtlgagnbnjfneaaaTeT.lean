/- Temperatures at junctions: the program's rounds. Conditions: the facts on memory and on lengths that each theorem names. -/
import Derived.Test.YtlgagnbnjfneaaaTeI
import Derived.Test.YtlgagnbnjfneaaaTeQ
import Derived.Test.YtlgagnbnjfneaaaRep
namespace Go.Proofs.Ytlgagnbnjfneaaa
open Go.RowKit
open Pl
set_option maxRecDepth 100000 in
set_option maxHeartbeats 6400000 in
theorem temperatures_any (H : Hx) (N : Nat) (A : Option Addr) (cp : Nat) (A1 : Option Addr) (c1 : Nat) (A2 : Option Addr) (c2 : Nat) (A3 : Option Addr) (c3 : Nat) (A4 : Option Addr) (c4 : Nat) (su : List Int) (t : Int) (w : World) (hO : H.Ok N) (hI : Recs encA 7 w.heap.size w A H.xs)
    (hI1 : Ints w.heap.size w A1 H.fs) (hI2 : Ints w.heap.size w A2 H.rs) (hI3 : Ints w.heap.size w A3 H.ps) (hI4 : Ints w.heap.size w A4 su) (hs : (su.length : Int) ≤ 1048576) (hsu : ∀ m, m < su.length → 0 ≤ su.getD m 0 ∧ su.getD m 0 ≤ (N : Int) - 1) (ht : -100 ≤ t ∧ t ≤ 600) :
    Calls Try.prog 70 #[.agg #[.int .i64 (N : Int), .slice A H.xs.length cp], .slice A1 H.fs.length c1, .slice A2 H.rs.length c2, .slice A3 H.ps.length c3, .slice A4 su.length c4, .int .i64 t, .int .i64 H.q] w fun e w' => ∃ u, e = .returned u ∧ Own w.heap.size w' u (H.go N N (Hx.first N su t)) ∧ Below w.heap.size w w' := by
  obtain ⟨hN1, hN2⟩ := hO.n
  have HO := Lib.hid hO
  have HT0 := Lib.hid (Hx.first_tl (N := N) (su := su) ht)
  have HSF := Lib.hid (Hx.sur_first (t := t) hsu)
  have HSU := Lib.hid hsu
  have J4 := Lib.hid hI4
  have HC := Lib.hid (fun (g cv : Nat) (d : List Int) (j : Nat) (W : World) (hb : Below w.heap.size w W) (hd : Hx.Tl N d) (hj : j < N) (h4 : Ints W.heap.size W (some ⟨g, 0, none⟩) d) =>
    comingIn_any H N A cp A1 c1 A2 c2 A3 c3 (some ⟨g, 0, none⟩) cv d j W hO ((hI.below hb).more hb.size) ((hI1.below hb).more hb.size) ((hI2.below hb).more hb.size) ((hI3.below hb).more hb.size) h4 hd hj)
  have be0 : Below w.heap.size w ((w.alloc (.cells #[.int .i64 (N : Int), .slice A H.xs.length cp] 31)).alloc (.cells #[.int .i64 (-1000)] 2)) := by go_grown
  have m0_0 : (((w.alloc (.cells #[.int .i64 (N : Int), .slice A H.xs.length cp] 31)).alloc (.cells #[.int .i64 (-1000)] 2))).cell? ⟨w.heap.size, 0, none⟩ = some (.int .i64 (N : Int)) := by go_simp
  have m1_0 : (((w.alloc (.cells #[.int .i64 (N : Int), .slice A H.xs.length cp] 31)).alloc (.cells #[.int .i64 (-1000)] 2))).cell? ⟨w.heap.size, 1, none⟩ = some (.slice A H.xs.length cp) := by go_simp
  have cr_0 : (((w.alloc (.cells #[.int .i64 (N : Int), .slice A H.xs.length cp] 31)).alloc (.cells #[.int .i64 (-1000)] 2))).cell? ⟨w.heap.size + 1, 0, none⟩ = some (.int .i64 (-1000)) := by go_simp
  clear hO hI hI1 hI2 hI3 hI4 hsu ht
  go_enter Try.func70, Try.ntmps70
  go_wp2_with fail
  generalize ((w.alloc (.cells #[.int .i64 (N : Int), .slice A H.xs.length cp] 31)).alloc (.cells #[.int .i64 (-1000)] 2)) = w1 at *
  have sz1 : w.heap.size + 1 < w1.heap.size := World.block_lt_of_cell? _ _ cr_0
  refine (Repeat_any N (-1000) (w.heap.size + 1) w1 hN1 hN2 cr_0).mono ?_
  rintro e w2 ⟨u, rfl, ho, hb2⟩
  have be2 := be0.trans (hb2.mono be0.size)
  obtain ⟨AV, cv, hv, -, -⟩ := ho.slice
  rw [List.length_replicate] at hv
  subst hv
  obtain ⟨g, rfl, hg1, hrow⟩ := ho.row (n := N) (by omega) (by simp)
  have HRow := Lib.hid hrow
  have M := Lib.hid (And.intro m0_0 m1_0)
  clear ho hrow cr_0 m0_0 m1_0
  go_wp2_with fail
  go_loopw [28] (fun ii wr => ∃ k : Nat, k ≤ su.length ∧ ii = .int .i64 k ∧ Below w1.heap.size w1 wr ∧ wr.ownsRow w1.heap.size 2 1 (.slice (some ⟨g, 0, none⟩) N cv) N (vals (Hx.sur t su (List.replicate N (-1000)) k))) (fun ii _ => su.length - (intOf ii).toNat)
  case atStart => exact ⟨0, Nat.zero_le _, rfl, hb2, HRow.out⟩
  case round =>
    obtain ⟨k, hk, rfl, hb, hown⟩ := hrel
    have hbw := be0.trans (hb.mono be0.size)
    by_cases hlt : k < su.length
    · obtain ⟨ad4, rfl, hab4, hc4⟩ := (J4.out.below hbw).atD hlt
      obtain ⟨s1, s2⟩ := HSU.out k hlt
      have hk0 : (0 : Int) ≤ (k : Int) := by omega
      have hk1 : (k : Int) < su.length := by omega
      have HS : Hid (Hx.sur t su (List.replicate N (-1000)) (k + 1) = (Hx.sur t su (List.replicate N (-1000)) k).set (su.getD k 0).toNat t) := Lib.hid rfl
      have hl : (Hx.sur t su (List.replicate N (-1000)) k).length = N := by rw [Hx.sur_len, List.length_replicate]
      obtain ⟨x, hx⟩ := Int.eq_ofNat_of_zero_le s1
      rw [hx] at HS hc4 s2
      rw [Int.toNat_natCast] at HS
      clear s1 hx
      generalize Hx.sur t su (List.replicate N (-1000)) k = D at *
      have hxN : x < N := by omega
      have hx0 : (0 : Int) ≤ (x : Int) := by omega
      have hx1 : (x : Int) < N := by omega
      have hco : wr.cell? ⟨g, x, none⟩ = some (.int .i64 (D.getD x 0)) := by
        rw [World.ownsRow.cellAt hown x (by omega), vals_get (by omega), getD_pt (by omega)]
      have hfz : wr.frozen? ⟨g, x, none⟩ = false := World.ownsRow.frozenAt hown x
      have HOI := Lib.hid hown
      clear hown hl
      go_wp2
      go_roundw
      case rel =>
        refine ⟨k + 1, by omega, by go_num, ?_⟩
        rw [HS.out]
        exact fit_set ⟨hb, HOI.out⟩ hg1 x t
      case measure => simp [intOf]; omega
    · obtain rfl : k = su.length := by omega
      rw [HSF.out] at hown
      have HOI := Lib.hid hown
      clear hown HRow
      go_wp2
      go_loopg [18] (N + 2) (fun kx _ wo => ∃ (r : Nat) (d : List Int), r ≤ kx ∧ H.Turn N (Hx.first N su t) r d ∧ Below w1.heap.size w1 wo ∧ wo.ownsRow w1.heap.size 2 1 (.slice (some ⟨g, 0, none⟩) N cv) N (vals d))
      case atStart => exact ⟨N, _, by omega, Hx.Turn.start H HT0.out, hb, HOI.out⟩
      case round =>
        obtain ⟨r, d, hrk, hT, hbo, howno⟩ := hrel
        have HTn := Lib.hid hT
        have HOO := Lib.hid howno
        have m0 := cell_later hbo M.out.1
        have m1 := cell_later hbo M.out.2
        clear hT howno hb HOI
        obtain ⟨wo, hwo⟩ : ∃ wo : World, wo = wr := ⟨_, rfl⟩
        subst hwo
        go_wp2
        go_loopw [18, 39] (fun fo ii wi => ∃ i : Nat, i ≤ N ∧ fo = .bool false ∧ ii = .int .i64 i ∧ (∀ j, j < i → H.hit d j = false) ∧ Below w1.heap.size w1 wi ∧ wi.ownsRow w1.heap.size 2 1 (.slice (some ⟨g, 0, none⟩) N cv) N (vals d)) (fun _ ii _ => N - (intOf ii).toNat)
        case atStart => exact ⟨0, Nat.zero_le _, rfl, rfl, fun j hj => by omega, hbo, HOO.out⟩
        case round =>
          obtain ⟨i, hi, rfl, rfl, hno, hbi, howni⟩ := hrel
          have m0 := cell_later hbi M.out.1
          have m1 := cell_later hbi M.out.2
          have HOI := Lib.hid howni
          have HNO := Lib.hid hno
          clear hno
          have hdl := HTn.out.tl.1
          by_cases hil : i < N
          · have hi0 : (0 : Int) ≤ (i : Int) := by omega
            have hi1 : (i : Int) < N := by omega
            have hco : wr.cell? ⟨g, i, none⟩ = some (.int .i64 (d.getD i 0)) := by
              rw [World.ownsRow.cellAt howni i (by omega), vals_get (by omega), getD_pt (by omega)]
            have hfz : ∀ z, wr.frozen? ⟨g, z, none⟩ = false := fun z => World.ownsRow.frozenAt howni z
            have hbw := be0.trans (hbi.mono be0.size)
            have hints := (Own.of_row howni hdl hg1).ints
            have HDL := Lib.hid hdl
            clear howni hdl
            by_cases hu : d.getD i 0 = -1000
            · have HCC := Lib.hid (HC.out g cv d i wr hbw HTn.out.tl hil hints)
              rw [HDL.out] at HCC
              have HU := Lib.hid hu
              rw [hu] at hco
              clear hu
              cases hR : H.into d i with
              | none =>
                rw [hR] at HCC
                have HH : Hid (H.hit d i = false) := Lib.hid (by unfold Hx.hit; rw [hR]; simp)
                clear hR hints
                go_wp2_with fail
                refine HCC.out.mono ?_
                rintro e w9 ⟨rfl, hb9⟩
                have hb10 := hbi.trans (hb9.mono hbi.size)
                go_wp2_with fail
                go_roundw
                case rel =>
                  refine ⟨i + 1, by omega, rfl, by go_num, fun j hj => ?_, hb10, row_later HOI.out hb9⟩
                  by_cases e : j = i
                  · subst e; exact HH.out
                  · exact HNO.out j (by omega)
                case measure => simp [intOf]; omega
              | some v =>
                rw [hR] at HCC
                have HRR := Lib.hid hR
                clear hR hints
                go_wp2_with fail
                refine HCC.out.mono ?_
                rintro e w9 ⟨rfl, hb9⟩
                have hb10 := hbi.trans (hb9.mono hbi.size)
                have HO9 := Lib.hid (row_later HOI.out hb9)
                have hco9 := cell_later hb9 hco
                have hfz9 : w9.frozen? ⟨g, i, none⟩ = false := World.ownsRow.frozenAt HO9.out i
                obtain ⟨z1, z2⟩ := HTn.out.next HO.out hil HNO.out HU.out HRR.out
                go_wp2
                go_roundg (r - 1)
                case measure => omega
                case rel => exact ⟨r - 1, _, Nat.le_refl _, z2, fit_set ⟨hb10, HO9.out⟩ hg1 i v⟩
            · have HH : Hid (H.hit d i = false) := Lib.hid (by unfold Hx.hit; rw [decide_eq_false hu]; simp)
              have hub : (d.getD i 0 == -1000) = false := by rw [beq_eq_false_iff_ne]; exact hu
              clear hints
              generalize d.getD i 0 = x at *
              go_wp2_with fail
              go_roundw
              case rel =>
                refine ⟨i + 1, by omega, rfl, by go_num, fun j hj => ?_, hbi, HOI.out⟩
                by_cases e : j = i
                · subst e; exact HH.out
                · exact HNO.out j (by omega)
              case measure => simp [intOf]; omega
          · obtain rfl : i = N := by omega
            have HE := Lib.hid (HTn.out.done HNO.out)
            have HOO2 : Hid (Own w.heap.size wr (.slice (some ⟨g, 0, none⟩) i cv) d) := Lib.hid (Own.of_row howni hdl (by omega))
            clear howni hdl
            go_wp2_with fail
            go_ret
            refine ⟨_, rfl, ?_, be0.trans (hbi.mono be0.size)⟩
            rw [← HE.out]
            exact HOO2.out
end Go.Proofs.Ytlgagnbnjfneaaa
