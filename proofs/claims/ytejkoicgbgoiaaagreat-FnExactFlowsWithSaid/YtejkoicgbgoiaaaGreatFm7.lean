/- Proved here: the parts NetF, NetD, Que, MapI, NetG of the row's proof, joined by a program. Conditions: as each part says. -/
import Derived.Test.YtejkoicgbgoiaaaGreatFm6
import Derived.BigQuiet
import Derived.Deep.RegionHeld3
import Derived.ArgAppend
import Derived.Maps.OwnSet
import Derived.Maps.OwnOps
import Derived.Maps.Views
import Derived.Deep.LoopGhost
/- Networks: the first shortest walk along some airways, by the reference. Conditions: the facts on memory and on lengths that each theorem names. Printed by gen_netf.py. -/
namespace Go.Proofs.YtejkoicgbgoiaaaGreat
open Go.RowKit
open Pl
/-- A row that reads as a function on the vertices below N. -/
def Reads (N : Nat) (D : List Int) (f : Int → Int) : Prop := ∀ v : Nat, v < N → D.getD v 0 = f v
theorem pass_step {N : Nat} {G : List Ed} {to : Int} {s i F T : Nat} {k : Int} {D : List Int} (hi : i < G.length) (he : G.getD i eNone = ⟨k, F, T⟩) (hl : D.length = N) (hF : F < N) (hT : T < N) (hD : Reads N D (dstP G to s i)) :
    (D.getD F 0 = s → D.getD T 0 < 0 → Reads N (D.set T ((s : Int) + 1)) (dstP G to s (i + 1))) ∧
    (¬ (D.getD F 0 = s ∧ D.getD T 0 < 0) → D.getD T 0 = s → D.getD F 0 < 0 → Reads N (D.set F ((s : Int) + 1)) (dstP G to s (i + 1))) ∧
    (¬ (D.getD F 0 = s ∧ D.getD T 0 < 0) → ¬ (D.getD T 0 = s ∧ D.getD F 0 < 0) → Reads N D (dstP G to s (i + 1))) := by
  have hc : ∀ v : Nat, v < N → dstP G to s (i + 1) v = mark1 (mark1 (dstP G to s i) s F T) s T F v := by
    intro v _
    have h := mark1_comp G to s i hi v
    rw [he] at h
    exact h.symm
  have u : ∀ (P : Int → Int) (a b v : Int), mark1 P s a b v = if v = b ∧ P a = s ∧ P b < 0 then (s : Int) + 1 else P v := fun P a b v => rfl
  have eF := hD F hF
  have eT := hD T hT
  refine ⟨fun h1 h2 v hv => ?_, fun h1 h2 h3 v hv => ?_, fun h1 h2 v hv => ?_⟩
  · rw [hc v hv, getD_set _ _ _ _ (by omega)]
    by_cases e : v = T
    · subst e
      rw [if_pos rfl]
      have e1 : mark1 (dstP G to s i) s F v v = (s : Int) + 1 := by rw [u, if_pos ⟨rfl, by omega, by omega⟩]
      rw [mark1_no (by rw [e1]; omega), e1]
    · rw [if_neg e, hD v hv]
      have e1 : mark1 (dstP G to s i) s F T v = dstP G to s i v := by rw [u, if_neg (by omega)]
      have e2 : mark1 (dstP G to s i) s F T T = (s : Int) + 1 := by rw [u, if_pos ⟨rfl, by omega, by omega⟩]
      rw [u (mark1 (dstP G to s i) s F T), if_neg (by rw [e2]; omega), e1]
  · rw [hc v hv, getD_set _ _ _ _ (by omega)]
    have e0 : ∀ x, mark1 (dstP G to s i) s F T x = dstP G to s i x := fun x => by rw [u, if_neg (by rw [← eF, ← eT]; omega)]
    rw [u (mark1 (dstP G to s i) s F T), e0, e0, e0, ← eF, ← eT]
    by_cases e : v = F
    · subst e; rw [if_pos rfl, if_pos ⟨rfl, h2, h3⟩]
    · rw [if_neg e, if_neg (by omega), hD v hv]
  · rw [hc v hv]
    have e0 : ∀ x, mark1 (dstP G to s i) s F T x = dstP G to s i x := fun x => by rw [u, if_neg (by rw [← eF, ← eT]; omega)]
    rw [u (mark1 (dstP G to s i) s F T), e0, e0, e0, ← eF, ← eT, if_neg (by omega), hD v hv]
theorem reads_start {N to : Nat} {G : List Ed} (h : to < N) : Reads N ((List.replicate N (-1 : Int)).set to 0) (dst G (to : Int) 0) := by
  intro v hv
  rw [getD_set _ _ _ _ (by simp; exact h)]
  unfold dst
  by_cases e : v = to
  · subst e; rw [if_pos rfl, if_pos rfl]
  · rw [if_neg e, if_neg (by omega)]
    simp [List.getD, hv]
theorem reads_bd {N : Nat} {G : List Ed} {to : Int} {s i : Nat} {D : List Int} (h : Reads N D (dstP G to s i)) {v : Nat} (hv : v < N) : -1 ≤ D.getD v 0 ∧ D.getD v 0 ≤ (s : Int) + 1 := by
  rw [h v hv]
  unfold dstP
  have := dst_or G to s v
  split
  · omega
  · split <;> omega
/-- Whether an edge leads nearer, and how. -/
theorem near_at {N F T c : Nat} {k : Int} {D : List Int} {f : Int → Int} (hD : Reads N D f) (hF : F < N) (hT : T < N) (hc : c < N) (hne : F ≠ T) :
    (c = F → nearB f c ⟨k, F, T⟩ = (D.getD T 0 == D.getD c 0 - 1) ∧ sgn ⟨k, F, T⟩ c = k + 1 ∧ (oth ⟨k, F, T⟩ c).getD 0 = T) ∧
    (c = T → nearB f c ⟨k, F, T⟩ = (D.getD F 0 == D.getD c 0 - 1) ∧ sgn ⟨k, F, T⟩ c = -k - 1 ∧ (oth ⟨k, F, T⟩ c).getD 0 = F) ∧
    (c ≠ F → c ≠ T → nearB f c ⟨k, F, T⟩ = false) := by
  rw [hD F hF, hD T hT, hD c hc]
  refine ⟨?_, ?_, fun h1 h2 => ?_⟩
  · rintro rfl
    have e : oth ⟨k, c, T⟩ c = some (T : Int) := by unfold oth; rw [if_pos rfl]
    unfold nearB sgn
    rw [e]
    exact ⟨rfl, by rw [if_pos rfl], rfl⟩
  · rintro rfl
    have e : oth ⟨k, F, c⟩ c = some (F : Int) := by unfold oth; rw [if_neg (by dsimp only; omega), if_pos rfl]
    unfold nearB sgn
    rw [e]
    exact ⟨rfl, by rw [if_neg (by dsimp only; omega)], rfl⟩
  · have e : oth ⟨k, F, T⟩ c = none := by unfold oth; rw [if_neg (by dsimp only; omega), if_neg (by dsimp only; omega)]
    unfold nearB
    rw [e]
theorem walkF_succ {G : List Ed} {d : Int → Int} {s : Nat} {a : Int} {i : Nat} (hi : i < G.length) (h1 : nearB d a (G.getD i eNone) = true) (h2 : ∀ j, j < i → nearB d a (G.getD j eNone) = false) :
    walkF G d (s + 1) a = sgn (G.getD i eNone) a :: walkF G d s ((oth (G.getD i eNone) a).getD 0) := by
  have e : walkF G d (s + 1) a = match G.find? (nearB d a) with | some e => sgn e a :: walkF G d s ((oth e a).getD 0) | none => [] := rfl
  rw [e, find_first hi h1 h2]
theorem dst_zero_at {G : List Ed} {N : Nat} {to v : Int} (h : dst G to N v = 0) : v = to := by
  have hl := Lv.of_dst (G := G) (to := to) (s := N) (v := v) (by omega)
  rw [h] at hl
  exact Lv.zero.1 hl
theorem dst_to {G : List Ed} {N : Nat} {to : Int} : dst G to N to = 0 := (Lv.zero.2 (rfl : to = to) : Lv G to 0 to).at_ (Nat.zero_le N)
set_option maxRecDepth 100000 in
set_option maxHeartbeats 6400000 in
theorem l04Walk_any (bm om : Nat) (N : Nat) (A : Option Addr) (cp : Nat) (xs : List Aw) (AE : Option Addr) (ce : Nat) (es : List Int) (a to : Nat) (w : World) (hI : Recs encA 7 w.heap.size w A xs) (hm : mineB (N : Int) xs = true) (hE : Ints w.heap.size w AE es) (hok : IdxOk xs.length es) (hel : es.length ≤ 24) (ha : a < N) (hto : to < N)
    (m0 : w.cell? ⟨bm, om, none⟩ = some (.int .i64 (N : Int))) (mm : w.cell? ⟨bm, om + 1, none⟩ = some (.slice A xs.length cp)) :
    Calls Tryz.prog 145 #[.pointer (some ⟨bm, om, none⟩), .slice AE es.length ce, .int .i64 (a : Int), .int .i64 (to : Int)] w fun e w' => ∃ u, e = .returned (.tuple #[u, .bool (pathF N (edsA xs es) a to).2]) ∧ Own w.heap.size w' u (pathF N (edsA xs es) a to).1 ∧ Below w.heap.size w w' := by
  obtain ⟨R, hR⟩ : ∃ R, R = pathF N (edsA xs es) a to := ⟨_, rfl⟩
  rw [← hR]
  have HR := Lib.hid hR
  clear hR
  obtain ⟨⟨n1, n2⟩, nx, _⟩ := mineB_bd hm
  have HE := Lib.hid (fun p (hp : p < xs.length) => mine_ends hm hp)
  have HK := Lib.hid hok
  have HGL := Lib.hid (edsA_length xs es)
  have J0 := Lib.hid hI
  have JE := Lib.hid hE
  have hbm : bm < w.heap.size := World.block_lt_of_cell? _ _ m0
  have hN1 : 1 ≤ N := by omega
  have hN2 : N ≤ 16 := by omega
  have hxn : xs.length ≤ 24 := by omega
  obtain ⟨i0, hi, hz0, hz1, hz2⟩ := info_parts infoI
  have HF := Lib.hid (And.intro hi (And.intro hz0 (And.intro hz1 hz2)))
  have M0 := Lib.hid m0
  have M1 := Lib.hid mm
  clear hI hm hE hok n1 n2 nx hi hz0 hz1 hz2 m0 mm
  go_enter Tryz.func145, Tryz.ntmps145
  go_wp2
  go_loopw [10, 11] (fun u ii wr => ∃ q : Nat, q ≤ N ∧ ii = .int .i64 q ∧ Below w.heap.size w wr ∧ Own w.heap.size wr u (List.replicate q (-1))) (fun _ ii _ => N - (intOf ii).toNat)
  case atStart => exact ⟨0, Nat.zero_le _, rfl, (Below.refl _ _).alloc (Nat.le_refl _) _, Own.empty (Nat.le_refl _)⟩
  case round =>
    obtain ⟨q, hq, rfl, hb, ho⟩ := hrel
    have m0 := cell_later hb M0.out
    have m1 := cell_later hb M1.out
    have hsz := hb.size
    by_cases hlt : q < N
    · have HO := Lib.hid ho
      have hl : (List.replicate q (-1 : Int)).length ≤ 16 := by simp; omega
      have HS : Hid (List.replicate (q + 1) (-1 : Int) = List.replicate q (-1) ++ [-1]) := Lib.hid List.replicate_succ'
      clear ho
      go_wp2_with (at_builtin; refine wpList_append_own_at _ rfl _ _ 25 rfl w.heap.size 2 i0 (.int .i64 0) 1 8 Tryz.underlying25 HF.out.1 HF.out.2.1 HF.out.2.2.1 HF.out.2.2.2 rfl (by decide) _ _ _ rfl (HO.out.later ((Below.refl _ _).alloc (Nat.le_refl _) _)) ⟨wr.heap.size, 0, none⟩ 1 1 [.int .i64 (-1)] rfl rfl (cell_one_new _ _ _) (by intro u hu; simp at hu; subst hu; rfl) (le_max (by omega)) (by omega) (by simp; omega) ?_; intro av aw ah ag an aa)
      have hbe2 : Below w.heap.size w aw := Below.appended hb HO.out hsz ag
      have ho' := Own.appended ah
      clear ah ag an aa
      have HO3 := Lib.hid ho'
      clear ho'
      go_wp2
      go_roundw
      case rel => exact ⟨q + 1, by omega, by go_num, hbe2, by rw [HS.out]; exact HO3.out⟩
      case measure => simp [intOf]; omega
    · obtain rfl : q = N := by omega
      obtain ⟨AV, cv, hv, -, -⟩ := ho.slice
      rw [List.length_replicate] at hv
      subst hv
      obtain ⟨g, rfl, hg1, hrow⟩ := ho.row (n := q) (by omega) (by simp)
      have hco : wr.cell? ⟨g, to, none⟩ = some (.int .i64 (-1)) := by
        rw [row_cell hrow (by simp) hto]
        simp [List.getD, hto]
      have hfz := row_free hrow to
      have HRow := Lib.hid hrow
      have hai : (to : Int) < q := by omega
      have ha0 : (0 : Int) ≤ (to : Int) := by omega
      have HBw := Lib.hid hb
      obtain ⟨wq, hwq⟩ : ∃ wq : World, wq = wr := ⟨_, rfl⟩
      subst hwq
      clear ho hrow
      go_wp2
      go_loopw [12] (fun kk wo => ∃ (r : Nat) (d : List Int), r ≤ q ∧ kk = .int .i64 r ∧ d.length = q ∧ Reads q d (dst (edsA xs es) to r) ∧ Below w.heap.size w wo ∧ wo.ownsRow w.heap.size 2 1 (.slice (some ⟨g, 0, none⟩) q cv) q (vals d)) (fun kk _ => q - (intOf kk).toNat)
      case atStart =>
        obtain ⟨r1, _⟩ := World.ownsRow.stored HRow.out to (.int .i64 0)
        rw [vals_set] at r1
        exact ⟨0, _, Nat.zero_le _, rfl, by simp, reads_start hto, HBw.out.setCell (by simpa using hg1) _, r1⟩
      case round =>
        obtain ⟨r, d, hr, rfl, hdl, hdr, hb, hown⟩ := hrel
        have HD := Lib.hid hdl
        have HDR := Lib.hid hdr
        have HO := Lib.hid hown
        clear hdl hdr hown hco hfz
        have m0 := cell_later hb M0.out
        have m1 := cell_later hb M1.out
        obtain ⟨wo, hwo⟩ : ∃ wo : World, wo = wr := ⟨_, rfl⟩
        subst hwo
        by_cases hlt : r < q
        · have hlti : (r : Int) < (q : Int) := by omega
          have hltb : decide ((r : Int) < (q : Int)) = true := decide_eq_true hlti
          go_wp2
          go_loopw [13] (fun ii wi => ∃ (i : Nat) (D : List Int), i ≤ es.length ∧ ii = .int .i64 i ∧ D.length = q ∧ Reads q D (dstP (edsA xs es) to r i) ∧ Below w.heap.size w wi ∧ wi.ownsRow w.heap.size 2 1 (.slice (some ⟨g, 0, none⟩) q cv) q (vals D)) (fun ii _ => es.length - (intOf ii).toNat)
          case atStart => exact ⟨0, d, Nat.zero_le _, rfl, HD.out, fun v hv => by rw [dstP_zero]; exact HDR.out v hv, hb, HO.out⟩
          case round =>
            obtain ⟨i, D, hi, rfl, hDl, hDr, hbw, howni⟩ := hrel
            have m0 := cell_later hbw M0.out
            have m1 := cell_later hbw M1.out
            by_cases hil : i < es.length
            · have hgw : g < wr.heap.size := row_lt howni
              obtain ⟨p, hp, hpx⟩ := HK.out i hil
              obtain ⟨F, T, hF, hT, hFN, hTN, hne⟩ := HE.out p hpx
              obtain ⟨ad, hAE, hadb, ce0⟩ := (JE.out.below hbw).atD hil
              rw [hp] at ce0
              subst hAE
              obtain ⟨⟨s, f, t, l, c, rr, k⟩, hx⟩ : ∃ x, xs.getD p aNone = x := ⟨_, rfl⟩
              obtain ⟨b, o, hA, hab, -, c1, c2, -⟩ := (J0.out.below hbw).cells7 hpx hx
              subst hA
              have hed : (edsA xs es).getD i eNone = ⟨(p : Int), (F : Int), (T : Int)⟩ := by
                rw [edsA_get hil]; unfold edA; rw [hp, Int.toNat_natCast, hF, hT]
              rw [hx] at hF hT
              have hF : f = (F : Int) := hF
              have hT : t = (T : Int) := hT
              subst hF hT
              obtain ⟨sA, sC, sN⟩ := pass_step (by rw [HGL.out]; exact hil) hed hDl hFN hTN hDr
              have hcf := row_cell howni hDl hFN
              have hct := row_cell howni hDl hTN
              obtain ⟨x1, x2⟩ := reads_bd hDr hFN
              obtain ⟨y1, y2⟩ := reads_bd hDr hTN
              have hff : ∀ z, wr.frozen? ⟨g, z, none⟩ = false := fun z => row_free howni z
              have HSA := Lib.hid sA
              have HSC := Lib.hid sC
              have HSN := Lib.hid sN
              have HOI := Lib.hid howni
              have HDL := Lib.hid hDl
              have hi0 : (0 : Int) ≤ (i : Int) := by omega
              have hi1 : (i : Int) < es.length := by omega
              have hp0 : (0 : Int) ≤ (p : Int) := by omega
              have hp1 : (p : Int) < xs.length := by omega
              have hF0 : (0 : Int) ≤ (F : Int) := by omega
              have hF1 : (F : Int) < q := by omega
              have hT0 : (0 : Int) ≤ (T : Int) := by omega
              have hT1 : (T : Int) < q := by omega
              have hne' : ¬ T = F := fun e => hne e.symm
              clear sA sC sN howni hDl hDr hx hed hp
              generalize D.getD F 0 = x at *
              generalize D.getD T 0 = y at *
              have k1 : ∀ n v z, ((wr.drewN n).setCell ⟨g, z, none⟩ v).cell? ⟨b, o + p * 7 + 1, none⟩ = some (.int .i64 (F : Int)) := fun n v z => (World.cell?_setCell_other _ _ _ _ (fun e => by have := congrArg Addr.block e; simp at this; omega)).trans c1
              have k2 : ∀ n v z, ((wr.drewN n).setCell ⟨g, z, none⟩ v).cell? ⟨b, o + p * 7 + 2, none⟩ = some (.int .i64 (T : Int)) := fun n v z => (World.cell?_setCell_other _ _ _ _ (fun e => by have := congrArg Addr.block e; simp at this; omega)).trans c2
              have hwr : IntKind.i64.wrap ((r : Int) + 1) = (r : Int) + 1 := IntWalk.i64_in _ (by omega)
              by_cases hxs : x = (r : Int)
              · have hxb : (x == (r : Int)) = true := by rw [beq_iff_eq]; exact hxs
                by_cases hy0 : y < 0
                · skip
                  have hyb : decide (y < 0) = true := decide_eq_true hy0
                  have hzb : ((r : Int) + 1 == (r : Int)) = false := by rw [beq_eq_false_iff_ne]; omega
                  have E1 := Lib.hid (HSA.out hxs hy0)
                  clear HSA HSC HSN
                  go_wp2
                  go_big_quiet (fail)
                  go_wp2
                  go_roundw
                  case rel => exact ⟨i + 1, D.set T ((r : Int) + 1), by omega, by go_num, by rw [List.length_set]; exact HDL.out, E1.out, (fit_set (fit_drew ⟨hbw, HOI.out⟩ _) hg1 _ _).1, (fit_set (fit_drew ⟨hbw, HOI.out⟩ _) hg1 _ _).2⟩
                  case measure => simp [intOf]; omega
                · have hyb : decide (y < 0) = false := decide_eq_false hy0
                  by_cases hys : y = (r : Int)
                  · skip
                    have hyb2 : (y == (r : Int)) = true := by rw [beq_iff_eq]; exact hys
                    have hxb2 : decide (x < 0) = false := decide_eq_false (by omega)
                    have E1 := Lib.hid (HSN.out (by omega) (by omega))
                    clear HSA HSC HSN
                    go_wp2
                    go_big_quiet (fail)
                    go_wp2
                    go_roundw
                    case rel => exact ⟨i + 1, D, by omega, by go_num, HDL.out, E1.out, (fit_drew ⟨hbw, HOI.out⟩ _).1, (fit_drew ⟨hbw, HOI.out⟩ _).2⟩
                    case measure => simp [intOf]; omega
                  · skip
                    have hyb2 : (y == (r : Int)) = false := by rw [beq_eq_false_iff_ne]; exact hys
                    have E1 := Lib.hid (HSN.out (by omega) (by omega))
                    clear HSA HSC HSN
                    go_wp2
                    go_big_quiet (fail)
                    go_wp2
                    go_roundw
                    case rel => exact ⟨i + 1, D, by omega, by go_num, HDL.out, E1.out, (fit_drew ⟨hbw, HOI.out⟩ _).1, (fit_drew ⟨hbw, HOI.out⟩ _).2⟩
                    case measure => simp [intOf]; omega
              · have hxb : (x == (r : Int)) = false := by rw [beq_eq_false_iff_ne]; exact hxs
                by_cases hys : y = (r : Int)
                · have hyb2 : (y == (r : Int)) = true := by rw [beq_iff_eq]; exact hys
                  by_cases hx0 : x < 0
                  · skip
                    have hxb2 : decide (x < 0) = true := decide_eq_true hx0
                    have E1 := Lib.hid (HSC.out (by omega) hys hx0)
                    clear HSA HSC HSN
                    go_wp2
                    go_big_quiet (fail)
                    go_wp2
                    go_roundw
                    case rel => exact ⟨i + 1, D.set F ((r : Int) + 1), by omega, by go_num, by rw [List.length_set]; exact HDL.out, E1.out, (fit_set (fit_drew ⟨hbw, HOI.out⟩ _) hg1 _ _).1, (fit_set (fit_drew ⟨hbw, HOI.out⟩ _) hg1 _ _).2⟩
                    case measure => simp [intOf]; omega
                  · skip
                    have hxb2 : decide (x < 0) = false := decide_eq_false hx0
                    have E1 := Lib.hid (HSN.out (by omega) (by omega))
                    clear HSA HSC HSN
                    go_wp2
                    go_big_quiet (fail)
                    go_wp2
                    go_roundw
                    case rel => exact ⟨i + 1, D, by omega, by go_num, HDL.out, E1.out, (fit_drew ⟨hbw, HOI.out⟩ _).1, (fit_drew ⟨hbw, HOI.out⟩ _).2⟩
                    case measure => simp [intOf]; omega
                · skip
                  have hyb2 : (y == (r : Int)) = false := by rw [beq_eq_false_iff_ne]; exact hys
                  have E1 := Lib.hid (HSN.out (by omega) (by omega))
                  clear HSA HSC HSN
                  go_wp2
                  go_big_quiet (fail)
                  go_wp2
                  go_roundw
                  case rel => exact ⟨i + 1, D, by omega, by go_num, HDL.out, E1.out, (fit_drew ⟨hbw, HOI.out⟩ _).1, (fit_drew ⟨hbw, HOI.out⟩ _).2⟩
                  case measure => simp [intOf]; omega
            · obtain rfl : i = es.length := by omega
              have HOI := Lib.hid howni
              have HDX := Lib.hid hDl
              have HDY : Hid (Reads q D (dst (edsA xs es) to (r + 1))) := Lib.hid (fun v hv => by rw [hDr v hv, ← HGL.out, dstP_all])
              clear howni hDl hDr
              go_wp2
              go_roundw
              case rel => exact ⟨r + 1, D, by omega, by go_num, HDX.out, HDY.out, hbw, HOI.out⟩
              case measure => simp [intOf]; omega
        · obtain rfl : r = q := by omega
          have hca := row_cell HO.out HD.out ha
          have hva := HDR.out a ha
          have hbd := dst_or (edsA xs es) to r a
          rw [← hva] at hbd
          have hgw : g < wo.heap.size := row_lt HO.out
          have hai2 : (a : Int) < r := by omega
          have ha02 : (0 : Int) ≤ (a : Int) := by omega
          have HVA := Lib.hid hva
          clear hva
          generalize hxa : d.getD a 0 = x at *
          by_cases hx0 : x < 0
          · have HN : Hid (R = ([], false)) := Lib.hid (by rw [HR.out]; unfold pathF; rw [if_neg (by rw [← HVA.out]; omega)])
            clear hxa
            go_wp2
            go_ret2
            refine ⟨.slice none 0 0, ret_vb (by rw [HN.out]), ?_, hb⟩
            rw [HN.out]; exact Own.nil_ _ _
          have hx0b : decide (x < 0) = false := decide_eq_false hx0
          have HN : Hid (R = (walkF (edsA xs es) (dst (edsA xs es) to r) x.toNat a, true)) := Lib.hid (by rw [HR.out]; unfold pathF; rw [if_pos (by rw [← HVA.out]; omega), ← HVA.out])
          clear hxa
          go_wp2
          go_loopw [15, 16] (fun u at_ wo2 => ∃ (c m : Nat) (ys : List Int), c < r ∧ at_ = .int .i64 c ∧ dst (edsA xs es) to r c = m ∧ m ≤ 16 ∧ ys.length + m ≤ 16 ∧ ys ++ walkF (edsA xs es) (dst (edsA xs es) to r) m c = R.1 ∧ Below w.heap.size w wo2 ∧ wo.heap.size ≤ wo2.heap.size ∧ wo2.ownsRow w.heap.size 2 1 (.slice (some ⟨g, 0, none⟩) r cv) r (vals d) ∧ Own wo.heap.size wo2 u ys) (fun _ at_ _ => (dst (edsA xs es) to r (intOf at_)).toNat)
          case atStart =>
            refine ⟨a, x.toNat, [], ha, rfl, by rw [← HVA.out]; omega, by omega, by simp; omega, by rw [HN.out]; rfl, hb.alloc hb.size _, by simp, World.ownsRow.alloc HO.out _, Own.empty (Nat.le_refl _)⟩
          case round =>
            obtain ⟨c, m, ys, hc, rfl, hcm, hm16, hym, hR, hb4, hsz4, hrow, hou⟩ := hrel
            obtain ⟨wp, hwp⟩ : ∃ wp : World, wp = wr := ⟨_, rfl⟩
            subst hwp
            have HRX := Lib.hid hR
            have HCM := Lib.hid hcm
            have HRW := Lib.hid hrow
            have HOU := Lib.hid hou
            clear hR hcm hrow hou
            by_cases hct : c = to
            · subst hct
              have hm0 : m = 0 := by
                have h := HCM.out
                rw [dst_to] at h; omega
              have HE2 : Hid (R.1 = ys) := Lib.hid (by
                rw [← HRX.out, hm0]; unfold walkF; simp)
              go_wp2
              go_ret2
              refine ⟨_, ret_vb (by rw [HN.out]), ?_, hb4⟩
              rw [HE2.out]
              exact HOU.out.base (fun g' h => by have := (World.ownsRow.lt HOU.out g' h).1; have := hb.size; omega)
            · have hctb : ((c : Int) != (to : Int)) = true := by rw [bne_iff_ne]; omega
              have hm1 : m ≠ 0 := fun e => hct (by
                have h := HCM.out
                rw [e] at h
                have := dst_zero_at h; omega)
              obtain ⟨m', rfl⟩ : ∃ m', m = m' + 1 := ⟨m - 1, by omega⟩
              obtain ⟨j, hj, hn1, hn2⟩ := near_some HCM.out
              have HJ1 := Lib.hid hn1
              have HJ2 := Lib.hid hn2
              have hj : j < es.length := by rw [← HGL.out]; exact hj
              have HWS := Lib.hid (walkF_succ (s := m') (by rw [HGL.out]; exact hj) hn1 hn2)
              clear hn1 hn2
              go_wp2
              go_loopw [15, 16, 17] (fun uu aa ii wi => ∃ i : Nat, i ≤ j ∧ uu = u15 ∧ aa = .int .i64 c ∧ ii = .int .i64 i ∧ ∃ n, wp.drewN n = wi) (fun _ _ ii _ => es.length - (intOf ii).toNat)
              case atStart => exact ⟨0, Nat.zero_le _, rfl, rfl, rfl, 0, rfl⟩
              case round =>
                obtain ⟨i, hi, rfl, rfl, rfl, n, rfl⟩ := hrel
                have hil : i < es.length := by omega
                have m1 := cell_later hb4 M1.out
                obtain ⟨p, hp, hpx⟩ := HK.out i hil
                obtain ⟨F, T, hF, hT, hFN, hTN, hne⟩ := HE.out p hpx
                obtain ⟨ad, hAE, hadb, ce0⟩ := (JE.out.below hb4).atD hil
                rw [hp] at ce0
                subst hAE
                obtain ⟨⟨s, f, t, l, ca, rr, k⟩, hx⟩ : ∃ x, xs.getD p aNone = x := ⟨_, rfl⟩
                obtain ⟨b, o, hA, hab, -, C1w, C2w, -⟩ := J0.out.cells7 hpx hx
                subst hA
                have c1 := (hb4.cell (p := ⟨b, o + p * 7 + 1, none⟩) hab).trans C1w
                have c2 := (hb4.cell (p := ⟨b, o + p * 7 + 2, none⟩) hab).trans C2w
                have hed : (edsA xs es).getD i eNone = ⟨(p : Int), (F : Int), (T : Int)⟩ := by
                  rw [edsA_get hil]; unfold edA; rw [hp, Int.toNat_natCast, hF, hT]
                rw [hx] at hF hT
                have hF : f = (F : Int) := hF
                have hT : t = (T : Int) := hT
                subst hF hT
                obtain ⟨nF, nT, nO⟩ := near_at (k := (p : Int)) HDR.out hFN hTN hc hne
                have hrw := HRW.out
                have hcf := row_cell hrw HD.out hFN
                have hct := row_cell hrw HD.out hTN
                have hcc := row_cell hrw HD.out hc
                have hdF := dst_or (edsA xs es) to r F
                rw [← HDR.out F hFN] at hdF
                have hdT := dst_or (edsA xs es) to r T
                rw [← HDR.out T hTN] at hdT
                have hdC := HCM.out
                rw [← HDR.out c hc] at hdC
                have HDF := Lib.hid (HDR.out F hFN)
                have HDT := Lib.hid (HDR.out T hTN)
                have HIJ : Hid (i < j → nearB (dst (edsA xs es) to r) c ⟨(p : Int), (F : Int), (T : Int)⟩ = false) := Lib.hid (fun h => by rw [← hed]; exact HJ2.out i h)
                have HIE : Hid (i = j → nearB (dst (edsA xs es) to r) c ⟨(p : Int), (F : Int), (T : Int)⟩ = true ∧ walkF (edsA xs es) (dst (edsA xs es) to r) (m' + 1) c = sgn ⟨(p : Int), (F : Int), (T : Int)⟩ c :: walkF (edsA xs es) (dst (edsA xs es) to r) m' ((oth ⟨(p : Int), (F : Int), (T : Int)⟩ c).getD 0)) := Lib.hid (by
                  rintro rfl
                  rw [← hed]
                  exact ⟨HJ1.out, HWS.out⟩)
                have HNF := Lib.hid nF
                have HNT := Lib.hid nT
                have HNO := Lib.hid nO
                have hi0 : (0 : Int) ≤ (i : Int) := by omega
                have hi1 : (i : Int) < es.length := by omega
                have hp0 : (0 : Int) ≤ (p : Int) := by omega
                have hp1 : (p : Int) < xs.length := by omega
                have hF0 : (0 : Int) ≤ (F : Int) := by omega
                have hF1 : (F : Int) < r := by omega
                have hT0 : (0 : Int) ≤ (T : Int) := by omega
                have hT1 : (T : Int) < r := by omega
                have hC0 : (0 : Int) ≤ (c : Int) := by omega
                have hC1 : (c : Int) < r := by omega
                have hyl : ys.length ≤ 16 := by omega
                have hszn : w.heap.size ≤ wp.heap.size := hb4.size
                have C1H := Lib.hid C1w
                have C2H := Lib.hid C2w
                clear hrw nF nT nO hed hx hp C1w C2w
                generalize d.getD F 0 = x at *
                generalize d.getD T 0 = y at *
                generalize d.getD c 0 = z at *
                have hwz : IntKind.i64.wrap (z - 1) = z - 1 := IntWalk.i64_in _ (by omega)
                by_cases hcF : c = F
                · obtain ⟨e1, e2, e3⟩ := HNF.out hcF
                  by_cases hij : i < j
                  · have h5 := HIJ.out hij
                    rw [e1] at h5
                    clear e1 e2 e3
                    have hfe : ((F : Int) == (c : Int)) = true := by rw [beq_iff_eq]; omega
                    have hte : ((T : Int) == (c : Int)) = false := by rw [beq_eq_false_iff_ne]; omega
                    have h6 : (y == z - 1) = false := h5
                    clear hcF
                    clear HNF HNT HNO HIE HIJ HDF HDT
                    go_wp2
                    go_big_quiet (fail)
                    go_wp2
                    go_big_quiet (fail)
                    go_wp2
                    go_big_quiet (fail)
                    go_wp2
                    go_roundw
                    case rel => exact ⟨i + 1, by omega, rfl, rfl, by go_num, _, by first | rfl | exact (World.drewN_drewN _ _ _).symm⟩
                    case measure => simp [intOf]; omega
                  · obtain ⟨h5, h6⟩ := HIE.out (by omega)
                    rw [e1] at h5
                    rw [e2, e3] at h6
                    have H6 := Lib.hid h6
                    clear e1 e2 e3 h6 HNF HNT HNO HIE HIJ
                    have hfe : ((F : Int) == (c : Int)) = true := by rw [beq_iff_eq]; omega
                    have h7 : (y == z - 1) = true := h5
                    clear hcF
                    go_wp2
                    go_big_quiet (fail)
                    go_wp2
                    go_big_quiet (fail)
                    generalize hwd : World.drewN (World.drewN (World.drewN wp _) _) _ = wd
                    have hpd : Below wp.heap.size wp wd := by rw [← hwd]; exact below_drewN (below_drewN (below_drewN (Below.refl _ _) _) _) _
                    have hrd : wd.ownsRow w.heap.size 2 1 (.slice (some ⟨g, 0, none⟩) r cv) r (vals d) := by rw [← hwd]; exact drewN_row (drewN_row (drewN_row HRW.out _) _) _
                    have HOd := Lib.hid (HOU.out.later hpd)
                    have HBD := Lib.hid (hb4.trans (hpd.mono hb4.size))
                    have hszd : wo.heap.size ≤ wd.heap.size := Nat.le_trans hsz4 hpd.size
                    have hszw : w.heap.size ≤ wd.heap.size := HBD.out.size
                    have HOw : Hid (Own w.heap.size wd u15 ys) := Lib.hid (HOd.out.base (fun g' h => by have := (World.ownsRow.lt HOd.out g' h).1; have := hb.size; omega))
                    have HRD := Lib.hid hrd
                    have m1d := cell_later hpd m1
                    have ced := cell_later hpd ce0
                    have ccd := cell_later hpd c2
                    clear hwd hpd hrd m0 m1 ce0 c1 c2 hcf hct hcc
                    have hq2 : dst (edsA xs es) to r (T : Int) = m' := by
                      have h1 := HDT.out
                      have h2 : y = z - 1 := by rw [beq_iff_eq] at h7; exact h7
                      omega
                    have HQ2 := Lib.hid hq2
                    clear hq2
                    go_wp2_with ((at_builtin; refine wpList_append_own_at _ rfl _ _ 25 rfl wo.heap.size 2 i0 (.int .i64 0) 1 8 Tryz.underlying25 HF.out.1 HF.out.2.1 HF.out.2.2.1 HF.out.2.2.2 rfl (by decide) _ _ _ rfl (HOd.out.later ((Below.refl _ _).alloc (Nat.le_refl _) _)) ⟨wd.heap.size, 0, none⟩ 1 1 [.int .i64 ((p : Int) + 1)] rfl rfl (cell_one_new _ _ _) (by intro u hu; simp at hu; subst hu; rfl) (le_max (by omega)) (by omega) (by simp; omega) ?_; intro av aw ah ag an aa); have hbe2 : Below w.heap.size w aw := Below.appended HBD.out HOw.out hszw ag; have m1a := cell_later hbe2 M1.out; have cca : aw.cell? ⟨b, o + p * 7 + 2, none⟩ = some (.int .i64 (T : Int)) := (hbe2.cell (p := ⟨b, o + p * 7 + 2, none⟩) hab).trans C2H.out)
                    have hra : aw.ownsRow w.heap.size 2 1 (.slice (some ⟨g, 0, none⟩) r cv) r (vals d) := World.ownsRow.kept (World.ownsRow.alloc HRD.out _) ag (.inr (fun e => by have := (World.ownsRow.lt HOd.out g e.symm).1; omega))
                    have ho' := Own.appended ah
                    have hsza : wo.heap.size ≤ aw.heap.size := by have := ag.size; simp at this; omega
                    clear ah ag an aa
                    go_roundw
                    case rel => exact ⟨T, m', ys ++ [(p : Int) + 1], hTN, rfl, HQ2.out, by omega, by simp; omega, by rw [List.append_assoc, List.singleton_append, ← H6.out]; exact HRX.out, hbe2, hsza, hra, ho'⟩
                    case measure => have q1 := HCM.out; have q2 := HQ2.out; simp [intOf, q1, q2] <;> omega
                · by_cases hcT : c = T
                  · obtain ⟨e1, e2, e3⟩ := HNT.out hcT
                    by_cases hij : i < j
                    · have h5 := HIJ.out hij
                      rw [e1] at h5
                      clear e1 e2 e3
                      have hfe : ((F : Int) == (c : Int)) = false := by rw [beq_eq_false_iff_ne]; omega
                      have hte : ((T : Int) == (c : Int)) = true := by rw [beq_iff_eq]; omega
                      have h6 : (x == z - 1) = false := h5
                      clear hcT
                      clear HNF HNT HNO HIE HIJ HDF HDT
                      go_wp2
                      go_big_quiet (fail)
                      go_wp2
                      go_big_quiet (fail)
                      go_wp2
                      go_big_quiet (fail)
                      go_wp2
                      go_roundw
                      case rel => exact ⟨i + 1, by omega, rfl, rfl, by go_num, _, by first | rfl | exact (World.drewN_drewN _ _ _).symm⟩
                      case measure => simp [intOf]; omega
                    · obtain ⟨h5, h6⟩ := HIE.out (by omega)
                      rw [e1] at h5
                      rw [e2, e3] at h6
                      have H6 := Lib.hid h6
                      clear e1 e2 e3 h6 HNF HNT HNO HIE HIJ
                      have hfe : ((F : Int) == (c : Int)) = false := by rw [beq_eq_false_iff_ne]; omega
                      have hte : ((T : Int) == (c : Int)) = true := by rw [beq_iff_eq]; omega
                      have h7 : (x == z - 1) = true := h5
                      clear hcT
                      go_wp2
                      go_big_quiet (fail)
                      go_wp2
                      go_big_quiet (fail)
                      go_wp2
                      go_big_quiet (fail)
                      generalize hwd : World.drewN (World.drewN (World.drewN (World.drewN wp _) _) _) _ = wd
                      have hpd : Below wp.heap.size wp wd := by rw [← hwd]; exact below_drewN (below_drewN (below_drewN (below_drewN (Below.refl _ _) _) _) _) _
                      have hrd : wd.ownsRow w.heap.size 2 1 (.slice (some ⟨g, 0, none⟩) r cv) r (vals d) := by rw [← hwd]; exact drewN_row (drewN_row (drewN_row (drewN_row HRW.out _) _) _) _
                      have HOd := Lib.hid (HOU.out.later hpd)
                      have HBD := Lib.hid (hb4.trans (hpd.mono hb4.size))
                      have hszd : wo.heap.size ≤ wd.heap.size := Nat.le_trans hsz4 hpd.size
                      have hszw : w.heap.size ≤ wd.heap.size := HBD.out.size
                      have HOw : Hid (Own w.heap.size wd u15 ys) := Lib.hid (HOd.out.base (fun g' h => by have := (World.ownsRow.lt HOd.out g' h).1; have := hb.size; omega))
                      have HRD := Lib.hid hrd
                      have m1d := cell_later hpd m1
                      have ced := cell_later hpd ce0
                      have ccd := cell_later hpd c1
                      clear hwd hpd hrd m0 m1 ce0 c1 c2 hcf hct hcc
                      have hq2 : dst (edsA xs es) to r (F : Int) = m' := by
                        have h1 := HDF.out
                        have h2 : x = z - 1 := by rw [beq_iff_eq] at h7; exact h7
                        omega
                      have HQ2 := Lib.hid hq2
                      clear hq2
                      go_wp2_with ((at_builtin; refine wpList_append_own_at _ rfl _ _ 25 rfl wo.heap.size 2 i0 (.int .i64 0) 1 8 Tryz.underlying25 HF.out.1 HF.out.2.1 HF.out.2.2.1 HF.out.2.2.2 rfl (by decide) _ _ _ rfl (HOd.out.later ((Below.refl _ _).alloc (Nat.le_refl _) _)) ⟨wd.heap.size, 0, none⟩ 1 1 [.int .i64 (-(p : Int) - 1)] rfl rfl (cell_one_new _ _ _) (by intro u hu; simp at hu; subst hu; rfl) (le_max (by omega)) (by omega) (by simp; omega) ?_; intro av aw ah ag an aa); have hbe2 : Below w.heap.size w aw := Below.appended HBD.out HOw.out hszw ag; have m1a := cell_later hbe2 M1.out; have cca : aw.cell? ⟨b, o + p * 7 + 1, none⟩ = some (.int .i64 (F : Int)) := (hbe2.cell (p := ⟨b, o + p * 7 + 1, none⟩) hab).trans C1H.out)
                      have hra : aw.ownsRow w.heap.size 2 1 (.slice (some ⟨g, 0, none⟩) r cv) r (vals d) := World.ownsRow.kept (World.ownsRow.alloc HRD.out _) ag (.inr (fun e => by have := (World.ownsRow.lt HOd.out g e.symm).1; omega))
                      have ho' := Own.appended ah
                      have hsza : wo.heap.size ≤ aw.heap.size := by have := ag.size; simp at this; omega
                      clear ah ag an aa
                      go_roundw
                      case rel => exact ⟨F, m', ys ++ [-(p : Int) - 1], hFN, rfl, HQ2.out, by omega, by simp; omega, by rw [List.append_assoc, List.singleton_append, ← H6.out]; exact HRX.out, hbe2, hsza, hra, ho'⟩
                      case measure => have q1 := HCM.out; have q2 := HQ2.out; simp [intOf, q1, q2] <;> omega
                  · have e1 := HNO.out hcF hcT
                    have hij : i < j := by
                      rcases Nat.lt_or_ge i j with h | h
                      · exact h
                      · have h2 := (HIE.out (by omega)).1
                        rw [e1] at h2; cases h2
                    clear e1
                    have hfe : ((F : Int) == (c : Int)) = false := by rw [beq_eq_false_iff_ne]; omega
                    have hte : ((T : Int) == (c : Int)) = false := by rw [beq_eq_false_iff_ne]; omega
                    clear HNF HNT HNO HIE HIJ HDF HDT
                    go_wp2
                    go_big_quiet (fail)
                    go_wp2
                    go_big_quiet (fail)
                    go_wp2
                    go_big_quiet (fail)
                    go_wp2
                    go_roundw
                    case rel => exact ⟨i + 1, by omega, rfl, rfl, by go_num, _, by first | rfl | exact (World.drewN_drewN _ _ _).symm⟩
                    case measure => simp [intOf]; omega
end Go.Proofs.YtejkoicgbgoiaaaGreat

/- Networks: the vertices to which some edges lead, and the spanning forest, by the program. Conditions: the facts on memory and on lengths that each theorem names. -/
namespace Go.Proofs.YtejkoicgbgoiaaaGreat
namespace Pl
/-- A search: the first k vertices of the list are done, and p edges at the next one. -/
structure Srch (N : Nat) (G : List Ed) (a : Int) (R : List Int) (k p : Nat) : Prop where
  start : a ∈ R
  nd : R.Nodup
  rng : ∀ u ∈ R, 0 ≤ u ∧ u < N
  hk : k ≤ R.length
  done : ∀ i, i < k → ∀ j, j < G.length → ∀ v, oth (G.getD j eNone) (R.getD i 0) = some v → v ∈ R
  part : ∀ j, j < p → ∀ v, oth (G.getD j eNone) (R.getD k 0) = some v → v ∈ R
  least : ∀ S : Int → Prop, S a → (∀ u v i, S u → i < G.length → oth (G.getD i eNone) u = some v → S v) → ∀ u ∈ R, S u
theorem Srch.init {N : Nat} {G : List Ed} {a : Int} (h1 : 0 ≤ a) (h2 : a < N) : Srch N G a [a] 0 0 :=
  ⟨by simp, by simp, by simp; exact ⟨h1, h2⟩, by simp, fun i h => by omega, fun i h => by omega, fun S h _ u hu => by simp at hu; subst hu; exact h⟩
theorem Srch.short {N : Nat} {G : List Ed} {a : Int} {R : List Int} {k p : Nat} (h : Srch N G a R k p) : R.length ≤ N := nodup_short N R h.nd h.rng
theorem Srch.skip {N : Nat} {G : List Ed} {a : Int} {R : List Int} {k p : Nat} (h : Srch N G a R k p) (hn : ∀ v, oth (G.getD p eNone) (R.getD k 0) = some v → v ∈ R) : Srch N G a R k (p + 1) :=
  ⟨h.start, h.nd, h.rng, h.hk, h.done, fun j hj v hv => by
    by_cases e : j = p
    · subst e; exact hn v hv
    · exact h.part j (by omega) v hv, h.least⟩
theorem Srch.push {N : Nat} {G : List Ed} {a : Int} {R : List Int} {k p : Nat} (h : Srch N G a R k p) (hG : EdIn N G) (hk : k < R.length) (hp : p < G.length) {v : Int} (ho : oth (G.getD p eNone) (R.getD k 0) = some v) (hv : v ∉ R) : Srch N G a (R ++ [v]) k (p + 1) := by
  have hr : 0 ≤ v ∧ v < N := by
    obtain ⟨hf, ht⟩ := hG p hp
    rcases oth_cases ho with ⟨_, rfl⟩ | ⟨_, _, rfl⟩
    · exact ht
    · exact hf
  refine ⟨List.mem_append_left _ h.start, ?_, ?_, by simp; omega, ?_, ?_, ?_⟩
  · rw [List.nodup_append]
    exact ⟨h.nd, by simp, fun x hx c hc e => by simp at hc; subst hc; subst e; exact hv hx⟩
  · intro u hu
    rcases List.mem_append.1 hu with hu | hu
    · exact h.rng u hu
    · simp at hu; subst hu; exact hr
  · intro i hi j hj w hw
    rw [getD_app (by omega)] at hw
    exact List.mem_append_left _ (h.done i hi j hj w hw)
  · intro j hj w hw
    rw [getD_app hk] at hw
    by_cases e : j = p
    · subst e; rw [ho] at hw; injection hw with hw; subst hw; simp
    · exact List.mem_append_left _ (h.part j (by omega) w hw)
  · intro S hS hc u hu
    rcases List.mem_append.1 hu with hu | hu
    · exact h.least S hS hc u hu
    · simp at hu; subst hu
      exact hc _ _ p (h.least S hS hc _ (mem_getD hk)) hp ho
theorem Srch.next {N : Nat} {G : List Ed} {a : Int} {R : List Int} {k : Nat} (h : Srch N G a R k G.length) (hk : k < R.length) : Srch N G a R (k + 1) 0 :=
  ⟨h.start, h.nd, h.rng, by omega, fun i hi j hj v hv => by
    by_cases e : i = k
    · subst e; exact h.part j hj v hv
    · exact h.done i (by omega) j hj v hv, fun j hj => by omega, h.least⟩
theorem Srch.end_ {N : Nat} {G : List Ed} {a : Int} {R : List Int} {p : Nat} (h : Srch N G a R R.length p) : Fnd N G a R :=
  ⟨h.start, h.rng, fun u hu i hi v hv => by
    obtain ⟨j, hj, rfl⟩ := getD_of_mem 0 hu
    exact h.done j hj i hi v hv, h.least⟩
end Pl
open Go.RowKit
open Pl
theorem Own.one {base : Nat} {w : World} (x : Int) (h : base ≤ w.heap.size) : Own base (w.alloc (.cells #[.int .i64 x] 2)) (.slice (some ⟨w.heap.size, 0, none⟩) 1 1) [x] :=
  ⟨rfl, .inr ⟨w.heap.size, 1, #[.int .i64 x], rfl, h, heap_alloc_new w _, Nat.le_refl _, by simp [maxLen], rfl, rfl⟩⟩
set_option maxRecDepth 100000 in
set_option maxHeartbeats 3200000 in
theorem reached_any (N : Nat) (A : Option Addr) (cp : Nat) (xs : List Aw) (a : Nat) (AE : Option Addr) (ce : Nat) (es : List Int) (w : World) (hI : Recs encA 7 w.heap.size w A xs) (hm : mineB (N : Int) xs = true) (hE : Ints w.heap.size w AE es) (hok : IdxOk xs.length es) (hel : es.length ≤ 24) (ha : a < N) :
    Calls Tryz.prog 159 #[.agg #[.int .i64 (N : Int), .slice A xs.length cp], .int .i64 (a : Int), .slice AE es.length ce] w fun e w' => ∃ u R, e = .returned u ∧ Own w.heap.size w' u R ∧ Fnd N (edsA xs es) (a : Int) R ∧ R.length ≤ N ∧ Below w.heap.size w w' := by
  obtain ⟨⟨n1, n2⟩, nx, _⟩ := mineB_bd hm
  have HG := Lib.hid (edsA_in hm hok)
  have HGL := Lib.hid (edsA_length xs es)
  have HK := Lib.hid hok
  have hN1 : 1 ≤ N := by omega
  have hN2 : N ≤ 16 := by omega
  have hxn : xs.length ≤ 24 := by omega
  obtain ⟨i0, hi, hz0, hz1, hz2⟩ := info_parts infoI
  have HF := Lib.hid (And.intro hi (And.intro hz0 (And.intro hz1 hz2)))
  have be0 : Below w.heap.size w (w.alloc (.cells #[.int .i64 (N : Int), .slice A xs.length cp] 33)) := by go_grown
  have k1 : (w.alloc (.cells #[.int .i64 (N : Int), .slice A xs.length cp] 33)).cell? ⟨w.heap.size, 1, none⟩ = some (.slice A xs.length cp) := by go_simp
  have K1 := Lib.hid k1
  have J0 := Lib.hid ((hI.below be0).more be0.size)
  have JE := Lib.hid ((hE.below be0).more be0.size)
  have hwl : w.heap.size < (w.alloc (.cells #[.int .i64 (N : Int), .slice A xs.length cp] 33)).heap.size := by simp
  have HZ0 : Hid (w.heap.size + 1 = (w.alloc (.cells #[.int .i64 (N : Int), .slice A xs.length cp] 33)).heap.size) := Lib.hid (by simp)
  clear hI hm hE hok n1 n2 nx hi hz0 hz1 hz2 k1
  go_enter Tryz.func159, Tryz.ntmps159
  go_wp2_with fail
  generalize hw0 : (w.alloc (.cells #[.int .i64 (N : Int), .slice A xs.length cp] 33)) = w0 at *
  clear hw0
  go_loopw [7, 8] (fun u kk wr => ∃ (R : List Int) (k : Nat), Srch N (edsA xs es) (a : Int) R k 0 ∧ kk = .int .i64 k ∧ Below w0.heap.size w0 wr ∧ Own w0.heap.size wr u R) (fun _ kk _ => N - (intOf kk).toNat)
  case atStart => exact ⟨[(a : Int)], 0, Srch.init (by omega) (by omega), rfl, (Below.refl _ _).alloc (Nat.le_refl _) _, by rw [HZ0.out]; exact Own.one _ (Nat.le_refl _)⟩
  case round =>
    obtain ⟨R, k, hS, rfl, hb, ho⟩ := hrel
    have hRN := hS.short
    have hkR := hS.hk
    obtain ⟨AV, cv, hv, -, -⟩ := ho.slice
    subst hv
    have HS := Lib.hid hS
    have HO := Lib.hid ho
    clear hS ho
    by_cases hlt : k < R.length
    · have hkl : (k : Int) < R.length := by omega
      obtain ⟨wo, hwo⟩ : ∃ wo : World, wo = wr := ⟨_, rfl⟩
      subst hwo
      go_wp2
      go_loopw [7, 23] (fun u pp wi => ∃ (Q : List Int) (p : Nat), Srch N (edsA xs es) (a : Int) Q k p ∧ k < Q.length ∧ p ≤ es.length ∧ pp = .int .i64 p ∧ Below w0.heap.size w0 wi ∧ Own w0.heap.size wi u Q) (fun _ pp _ => es.length - (intOf pp).toNat)
      case atStart => exact ⟨R, 0, HS.out, hlt, Nat.zero_le _, rfl, hb, HO.out⟩
      case round =>
        obtain ⟨Q, p, hS, hkQ, hp, rfl, hb2, ho⟩ := hrel
        have hQN := hS.short
        obtain ⟨AQ, cq, hv, hiv, -⟩ := ho.slice
        subst hv
        have m1 := cell_later hb2 K1.out
        by_cases hpl : p < es.length
        · obtain ⟨x, hx⟩ : ∃ x, Q.getD k 0 = x := ⟨_, rfl⟩
          obtain ⟨ad, hAQ, _, cx⟩ := hiv.atD hkQ
          subst hAQ
          rw [hx] at cx
          obtain ⟨z, hz, hzx⟩ := HK.out p hpl
          obtain ⟨ad2, hAE, _, ce0⟩ := (JE.out.below hb2).atD hpl
          subst hAE
          rw [hz] at ce0
          obtain ⟨⟨s, f, t, l, c, r, q⟩, hax⟩ : ∃ x, xs.getD z aNone = x := ⟨_, rfl⟩
          obtain ⟨b, o, hA, hab, c0, c1, c2, c3, c4, c5, c6⟩ := (J0.out.below hb2).cells7 hzx hax
          subst hA
          have hed : (edsA xs es).getD p eNone = ⟨(z : Int), f, t⟩ := by rw [edsA_get hpl]; unfold edA; rw [hz, Int.toNat_natCast, hax]
          have HSk : Hid ((∀ v, oth ⟨(z : Int), f, t⟩ x = some v → v ∈ Q) → Srch N (edsA xs es) (a : Int) Q k (p + 1)) := Lib.hid (fun h => hS.skip (fun v hv => h v (by rw [hed, hx] at hv; exact hv)))
          have HPu : Hid (∀ v, oth ⟨(z : Int), f, t⟩ x = some v → v ∉ Q → Srch N (edsA xs es) (a : Int) (Q ++ [v]) k (p + 1)) := Lib.hid (fun v hv hq => hS.push HG.out hkQ (by rw [HGL.out]; exact hpl) (by rw [hed, hx]; exact hv) hq)
          have HV := Lib.hid (fun W => other_any s f t l c r q x (z : Int) W)
          have HO2 := Lib.hid ho
          have i0' : (0 : Int) ≤ (p : Int) := by omega
          have i1' : (p : Int) < es.length := by omega
          have z0 : (0 : Int) ≤ (z : Int) := by omega
          have z1 : (z : Int) < xs.length := by omega
          have k0 : (0 : Int) ≤ (k : Int) := by omega
          have k1 : (k : Int) < Q.length := by omega
          have hsz := hb2.size
          have g1 := fun L : Later wr => L.cell m1
          have gx := fun L : Later wr => L.cell cx
          have ge := fun L : Later wr => L.cell ce0
          have g20 := fun L : Later wr => L.cell c0
          have g21 := fun L : Later wr => L.cell c1
          have g22 := fun L : Later wr => L.cell c2
          have g23 := fun L : Later wr => L.cell c3
          have g24 := fun L : Later wr => L.cell c4
          have g25 := fun L : Later wr => L.cell c5
          have g26 := fun L : Later wr => L.cell c6
          clear hS ho hiv hed hx hz hax
          cases ho : oth ⟨(z : Int), f, t⟩ x with
          | none =>
            rw [ho] at HV
            have HN := Lib.hid (HSk.out (fun v hv => by rw [ho] at hv; cases hv))
            clear ho HSk HPu
            go_wp2
            refine wp_region_later (by kernel_rfl) (by kernel_rfl) ?_
            repeat (go_big_quiet_step ((go_at_call 161; first | (with_reducible exact later_b (HV.out _)) | (with_reducible exact later_d (HV.out _)) | (with_reducible exact later_s (HV.out _)))))
            refine wpQuiet_nil ?_
            intro _ hw'
            obtain ⟨LL, hw''⟩ := hw'
            subst hw''
            go_wp2
            go_roundw
            case rel => exact ⟨Q, p + 1, HN.out, hkQ, by omega, by go_num, hb2.trans (LL.below.mono hsz), HO2.out.later LL.below⟩
            case measure => simp [intOf]; omega
          | some v =>
            rw [ho] at HV
            have HC := Lib.hid (fun L : Later wr => Contains_any (some ad) cq Q v L.world.heap.size L.world (by omega) (HO2.out.later L.below).ints)
            by_cases hq : v ∈ Q
            · have hcb : Q.contains v = true := by simpa using hq
              rw [hcb] at HC
              have HN := Lib.hid (HSk.out (fun v' hv => by rw [ho] at hv; injection hv with hv; subst hv; exact hq))
              clear ho HSk HPu hq hcb
              go_wp2
              refine wp_region_later (by kernel_rfl) (by kernel_rfl) ?_
              repeat (go_big_quiet_step ((go_at_call 161; first | (with_reducible exact later_b (HV.out _)) | (with_reducible exact later_d (HV.out _)) | (with_reducible exact later_s (HV.out _)))))
              refine wpQuiet_nil ?_
              intro _ hw'
              obtain ⟨LL, hw''⟩ := hw'
              subst hw''
              go_wp2_with (go_at_call 127; refine (HC.out _).mono ?_; rintro e w' ⟨rfl, rfl⟩)
              go_roundw
              case rel => exact ⟨Q, p + 1, HN.out, hkQ, by omega, by go_num, hb2.trans (LL.below.mono hsz), HO2.out.later LL.below⟩
              case measure => simp [intOf]; omega
            · have hcb : Q.contains v = false := by simpa using hq
              rw [hcb] at HC
              have HN := Lib.hid (HPu.out v ho hq)
              have hql : Q.length ≤ 16 := by omega
              clear ho HSk HPu hq hcb
              go_wp2
              refine wp_region_later (by kernel_rfl) (by kernel_rfl) ?_
              repeat (go_big_quiet_step ((go_at_call 161; first | (with_reducible exact later_b (HV.out _)) | (with_reducible exact later_d (HV.out _)) | (with_reducible exact later_s (HV.out _)))))
              refine wpQuiet_nil ?_
              intro _ hw'
              obtain ⟨LL, hw''⟩ := hw'
              subst hw''
              have HC1 := Lib.hid (HC.out LL)
              have hb3 := hb2.trans (LL.below.mono hsz)
              have HO3 := Lib.hid (HO2.out.later LL.below)
              have hsz3 := hb3.size
              clear g1 gx ge g20 g21 g22 g23 g24 g25 g26 HC
              generalize LL.world = wd at *
              go_wp2_with (first | (go_at_call 127; refine (HC1.out).mono ?_; rintro e w' ⟨rfl, rfl⟩) | (at_builtin; refine wpList_append_own_at _ rfl _ _ 25 rfl w0.heap.size 2 i0 (.int .i64 0) 1 8 Tryz.underlying25 HF.out.1 HF.out.2.1 HF.out.2.2.1 HF.out.2.2.2 rfl (by decide) _ _ _ rfl (HO3.out.later ((Below.refl _ _).alloc (Nat.le_refl _) _)) ⟨wd.heap.size, 0, none⟩ 1 1 [.int .i64 v] rfl rfl (cell_one_new _ _ _) (by intro u hu; simp at hu; subst hu; rfl) (le_max (by omega)) (by omega) (by simp; omega) ?_; intro av aw ah ag an aa))
              have hbe2 : Below w0.heap.size w0 aw := Below.appended hb3 HO3.out hsz3 ag
              have ho' := Own.appended ah
              clear ah ag an aa
              have HO4 := Lib.hid ho'
              clear ho'
              go_wp2
              go_roundw
              case rel => exact ⟨Q ++ [v], p + 1, HN.out, by simp; omega, by omega, by go_num, hbe2, HO4.out⟩
              case measure => simp [intOf]; omega
        · obtain rfl : p = es.length := by omega
          have HO2 := Lib.hid ho
          have HN := Lib.hid (Srch.next (by rw [HGL.out]; exact hS) hkQ)
          clear ho hS hiv
          go_wp2
          go_roundw
          case rel => exact ⟨Q, k + 1, HN.out, by go_num, hb2, HO2.out⟩
          case measure => simp [intOf]; omega
    · obtain rfl : k = R.length := by omega
      have HD := Lib.hid HS.out.end_
      go_wp2
      go_ret
      refine ⟨_, R, rfl, HO.out.base (fun g h => by have := (World.ownsRow.lt HO.out g h).1; omega), HD.out, hRN, be0.trans (hb.mono be0.size)⟩
end Go.Proofs.YtejkoicgbgoiaaaGreat

/- A queue of numbers: a slice that begins anywhere in a block of the call's own; one number appended to it. Conditions: the lengths that each theorem names. -/
namespace Go.Proofs.YtejkoicgbgoiaaaGreat
open Go.RowKit
open Pl
/-- A slice of numbers, from any place of a block of the call's own on: its numbers, and room behind them that may be written. -/
structure Que (base : Nat) (w : World) (g h n cap : Nat) (xs : List Int) : Prop where
  len : xs.length = n
  ge : base ≤ g
  lt : g < w.heap.size
  le : n ≤ cap
  cell : ∀ j, j < n → w.cell? ⟨g, h + j, none⟩ = some (.int .i64 (xs.getD j 0))
  room : ∀ j, n ≤ j → j < cap → (w.cell? ⟨g, h + j, none⟩).isSome = true ∧ w.frozen? ⟨g, h + j, none⟩ = false
theorem Que.kept {base g h n cap : Nat} {w w' : World} {xs : List Int} (q : Que base w g h n cap xs) (hs : w.heap.size ≤ w'.heap.size) (hb : w'.heap[g]? = w.heap[g]?) : Que base w' g h n cap xs :=
  ⟨q.len, q.ge, Nat.lt_of_lt_of_le q.lt hs, q.le, fun j hj => (World.cell?_of_block (a := ⟨g, h + j, none⟩) hb).trans (q.cell j hj), fun j h1 h2 => by
    rw [World.cell?_of_block (a := ⟨g, h + j, none⟩) hb, World.frozen?_of_block (a := ⟨g, h + j, none⟩) hb]; exact q.room j h1 h2⟩
theorem Que.later {base g h n cap : Nat} {w w' : World} {xs : List Int} (q : Que base w g h n cap xs) (hb : Below w.heap.size w w') : Que base w' g h n cap xs := q.kept hb.size (hb.block g q.lt)
theorem Que.tail {base g h n cap : Nat} {w : World} {x : Int} {xs : List Int} (q : Que base w g h (n + 1) cap (x :: xs)) : Que base w g (h + 1) n (cap - 1) xs :=
  ⟨by have := q.len; simpa using this, q.ge, q.lt, by have := q.le; omega, fun j hj => by
    have := q.cell (j + 1) (by omega)
    rw [show h + 1 + j = h + (j + 1) by omega, this]; rfl, fun j h1 h2 => by
    have := q.room (j + 1) (by omega) (by omega)
    rw [show h + 1 + j = h + (j + 1) by omega]; exact this⟩
theorem Que.none_ {base g h : Nat} {w : World} (h1 : base ≤ g) (h2 : g < w.heap.size) : Que base w g h 0 0 [] := ⟨rfl, h1, h2, Nat.le_refl _, fun j hj => by omega, fun j _ hj => by omega⟩
theorem Que.one {base : Nat} {w : World} (x : Int) (h : base ≤ w.heap.size) : Que base (w.alloc (.cells #[.int .i64 x] 2)) w.heap.size 0 1 1 [x] :=
  ⟨rfl, h, by simp, Nat.le_refl _, fun j hj => by
    obtain rfl : j = 0 := by omega
    exact cell_one_new _ _ _ 0 _ rfl, fun j h1 h2 => by omega⟩
theorem getD_lastI {l : List Int} {x d : Int} : (l ++ [x]).getD l.length d = x := by simp [List.getD]
theorem wpList_append_que {P : Program} (w : World) {ops : Array Oper} {rest : List Oper} {o : Oper} {a : Act} {Q : Exit → Act → World → Prop}
    (hgd : o.guard = none) (s x : Operand) (t : TypeId) (hop : o.op = Op.call { callee := Callee.builtin Builtin.append, args := #[s, x], argTypes := #[t, t] })
    (i : TypeInfo) (h1 : P.underlying t = some (.slice 2)) (h2 : P.info? 2 = some i) (h3 : i.zero = some (.int .i64 0)) (h4 : i.size = 1) (h5 : i.bytes = 8)
    (base g h n cap : Nat) (xs : List Int) (hs : a.eval s = .slice (some ⟨g, h, none⟩) n cap) (hq : Que base w g h n cap xs)
    (ad : Addr) (y : Int) (hx : a.eval x = .slice (some ad) 1 1) (hc : ∀ j u, [Value.int .i64 y][j]? = some u → w.cell? (ad.add j) = some u) (hn : n ≤ 1000) (hB : base ≤ w.heap.size)
    (hK : ∀ g' h' cap' w', Que base w' g' h' (n + 1) cap' (xs ++ [y]) → Below base w w' → wpList P ops Q rest (a.put o.dst (.slice (some ⟨g', h', none⟩) (n + 1) cap')) w') :
    wpList P ops Q (o :: rest) a w := by
  have hlen := hq.len
  refine wpList_append_arg w hgd s x t hop 2 i (.int .i64 0) 1 8 h1 h2 h3 h4 h5 rfl (by decide) g h n cap (vals xs) hs (by rw [vals_length, Nat.mul_one, hlen]) ?_ ad 1 1 [.int .i64 y] hx rfl hc ?_ ?_ (le_max (by omega)) (by omega) ?_ ?_
  · intro j u hj
    obtain ⟨hj', _⟩ := List.getElem?_eq_some_iff.1 hj
    rw [vals_length] at hj'
    rw [vals_get hj'] at hj
    injection hj with hj
    subst hj
    rw [hq.cell j (by omega), getD_pt hj']
  · intro u hu; simp at hu; subst hu; rfl
  · intro hr j hj
    have hj : j < 1 := hj
    have := hq.room (n + j) (by omega) (by omega)
    rw [Nat.mul_one, Nat.add_assoc]; exact this
  · intro hr
    obtain ⟨e1, e2⟩ := hq.room n (Nat.le_refl _) (by omega)
    obtain ⟨v0, hv0⟩ := Option.isSome_iff_exists.1 e1
    have hset : w.setCells g (h + n * 1) [Value.int .i64 y] = w.setCell ⟨g, h + n, none⟩ (.int .i64 y) := by rw [Nat.mul_one]; rfl
    rw [hset]
    have hbl : Below base w (w.setCell ⟨g, h + n, none⟩ (.int .i64 y)) := (Below.refl _ _).setCell (by exact hq.ge) _
    refine hK g h cap _ ⟨by rw [List.length_append, hlen]; rfl, hq.ge, by rw [show (w.setCell ⟨g, h + n, none⟩ (.int .i64 y)).heap.size = w.heap.size by simp]; exact hq.lt, hr, fun j hj => ?_, fun j k1 k2 => ?_⟩ hbl
    · by_cases e : j = n
      · subst e
        rw [World.cell?_setCell_same _ _ _ hv0, ← hlen, getD_lastI]
      · rw [World.cell?_setCell_other _ _ _ _ (fun e' => by have := congrArg Addr.off e'; simp at this; omega), hq.cell j (by omega)]
        simp only [List.getD, List.getElem?_append_left (show j < xs.length by omega)]
    · have := hq.room j (by omega) k2
      rw [World.cell?_setCell_other _ _ _ _ (fun e' => by have := congrArg Addr.off e'; simp at this; omega), World.frozen?_setCell]
      exact this
  · intro hc' v' w' hrow hgrow
    rcases hrow.2 with ⟨rfl, h0⟩ | ⟨g', cap', cur, rfl, hb, hg', hle, hmax, hsz, htk⟩
    · omega
    · have e : vals xs ++ [Value.int .i64 y] = vals (xs ++ [y]) := by rw [vals_append]; rfl
      rw [e] at hrow
      refine hK g' 0 cap' w' ⟨by rw [List.length_append, hlen]; rfl, Nat.le_trans hB hb, (Array.getElem?_eq_some_iff.1 hg').1, hle, fun j hj => ?_, fun j k1 k2 => ?_⟩ ((Below.refl _ _).grown hgrow hB (fun g h => by cases h))
      · rw [Nat.zero_add]
        exact row_cell hrow (by rw [List.length_append, hlen]; rfl) hj
      · rw [Nat.zero_add]
        refine ⟨?_, World.ownsRow.frozenAt hrow j⟩
        have : j < cur.size := by omega
        simp [World.cell?, hg', this]
end Go.Proofs.YtejkoicgbgoiaaaGreat

/- A map from numbers to numbers that the call makes: what it holds as a function; the store that a literal is made of. No conditions beyond those that each theorem names. -/
namespace Go.Proofs.YtejkoicgbgoiaaaGreat
open Go.RowKit Go.Maps
open Pl
/-- What a map holds, as a function. -/
structure MapIs (D : DataW Unit) (g : Int → Option Nat) : Prop where
  isMap : IsMap D
  at_ : ∀ v : Int, D.atKey (.int .i64 v) (.lit (.int .i64 0)) = .lit (.int .i64 (((g v).getD 0 : Nat) : Int))
  has : ∀ v : Int, Maps.has D (.int .i64 v) = (g v).isSome
theorem MapIs.empty : MapIs (.map []) (fun _ => none) := ⟨isMap_empty, fun _ => rfl, fun _ => rfl⟩
theorem MapIs.put {D : DataW Unit} {g : Int → Option Nat} (h : MapIs D g) (v : Int) (d : Nat) : MapIs (D.put (.int .i64 v) (.lit (.int .i64 (d : Int)))) (fun x => if x = v then some d else g x) := by
  have hk : Go.WideAt.IsKeyLit (.int .i64 v) := by first | exact trivial | exact .int | simp [Go.WideAt.IsKeyLit]
  refine ⟨h.isMap.put _ _, fun x => ?_, fun x => ?_⟩
  · by_cases e : x = v
    · subst e; rw [atKey_put_same h.isMap hk, if_pos rfl]; rfl
    · rw [atKey_put_other (fun c => e (by injection c)), if_neg e, h.at_]
  · by_cases e : x = v
    · subst e; rw [has_put_same h.isMap hk, if_pos rfl]; rfl
    · rw [has_put_other (fun c => e (by injection c)), if_neg e, h.has]
/-- A store of a literal's part. -/
theorem wpList_insert_own {H : Type} {P : Program} (w : World) {ops : Array Oper} {rest : List Oper} {o : Oper} {a : Act} {Q : Exit → Act → World → Prop}
    (hg : o.guard = none) (m x v : Operand) (t : TypeId) (hop : o.op = Op.insert t m x v)
    (k e : TypeId) (K : Keyed P k) (ht : P.underlying t = some (.map k e)) (R : Value → Option (DataW H × List MemPlace)) (b n : Nat) (D : DataW H)
    (hm : a.eval m = .map (some b)) (hown : w.ownsMap P k R b n D) (hn : n < maxLen) (key val : Value) (kl : Lit) (hx : a.eval x = key) (hv : a.eval v = val) (hkey : keyOf P k key = some kl)
    (d : DataW H) (ps : List MemPlace) (hval : R val = some (d, ps))
    (hK : ∀ w', w'.ownsMap P k R b (n + 1) (D.put kl d) → w.grownBy w' (some b) → wpList P ops Q rest (a.put o.dst undef) w') :
    wpList P ops Q (o :: rest) a w := by
  refine wpList_plain hg fun K' hK' => ?_
  obtain ⟨w', hrun, r1, r2⟩ := hown.update K ht hn hkey hval
  unfold Oper.wp
  simp [execOp, hop, hm, hx, hv, hrun, Result.andThen]
  exact hK' _ _ (hK w' r1 r2)
theorem lawI : Keyed Tryz.prog 2 := int_keyed Tryz.underlying2
theorem zeroI (w : World) : (zeroValue 3).run Tryz.prog w = .ok (.int .i64 0) w := by kernel_rfl
/-- Block b is a map of at most n entries that holds g. -/
def Holds (w : World) (b n : Nat) (g : Int → Option Nat) : Prop := ∃ D : DataW Unit, w.ownsMap Tryz.prog 2 (plainElem Tryz.prog 3) b n D ∧ MapIs D g
theorem Holds.lt {w : World} {b n : Nat} {g : Int → Option Nat} (h : Holds w b n g) : b < w.heap.size := by obtain ⟨D, h, _⟩ := h; exact h.lt
theorem Holds.kept {w w' : World} {b n : Nat} {g : Int → Option Nat} (h : Holds w b n g) (hb : w'.heap[b]? = w.heap[b]?) : Holds w' b n g := by
  obtain ⟨D, ⟨es, clock, h1, r⟩, h2⟩ := h
  exact ⟨D, ⟨es, clock, hb.trans h1, r⟩, h2⟩
theorem Holds.later {w w' : World} {b n : Nat} {g : Int → Option Nat} (h : Holds w b n g) (hb : Below w.heap.size w w') : Holds w' b n g := h.kept (hb.block b h.lt)
set_option maxRecDepth 100000 in
/-- The look-ups, as equations for a walk. -/
theorem Holds.look {w : World} {b n : Nat} {g : Int → Option Nat} (h : Holds w b n g) {v : Int} (hv : -9223372036854775808 ≤ v ∧ v ≤ 9223372036854775807) :
    (Instr.lookup 172 (.map (some b)) (.int .i64 v) false).run Tryz.prog w = .ok (.int .i64 (((g v).getD 0 : Nat) : Int)) w := by
  obtain ⟨D, h1, h2⟩ := h
  obtain ⟨c, hrun, hat, _⟩ := h1.lookup_int lawI Tryz.underlying172 Tryz.underlying3 (zeroI w) (keyOf_int_mk Tryz.underlying2 (WalkArith.wf_i64 hv))
  rw [h2.at_ v] at hat
  injection hat with hat
  injection hat with _ hat
  rw [hrun, hat]
set_option maxRecDepth 100000 in
theorem Holds.look_ok {w : World} {b n : Nat} {g : Int → Option Nat} (h : Holds w b n g) {v : Int} (hv : -9223372036854775808 ≤ v ∧ v ≤ 9223372036854775807) :
    (Instr.lookup 172 (.map (some b)) (.int .i64 v) true).run Tryz.prog w = .ok (.tuple #[.int .i64 (((g v).getD 0 : Nat) : Int), .bool (g v).isSome]) w := by
  obtain ⟨D, h1, h2⟩ := h
  obtain ⟨x, ps, hrun, hR⟩ := h1.look_ok lawI Tryz.underlying172 (zeroI w) (plainElem_int Tryz.underlying3 (by decide)) (keyOf_int_mk Tryz.underlying2 (WalkArith.wf_i64 hv))
  obtain ⟨c, rfl, hc, _⟩ := plainElem_int_inv Tryz.underlying3 hR
  rw [h2.has v] at hrun
  have hc := congrArg Prod.fst hc
  rw [h2.at_ v] at hc
  injection hc with hc
  injection hc with _ hc
  rw [hrun, hc]
/-- A store: what holds behind it. -/
theorem Holds.step {w' : World} {b n : Nat} {D : DataW Unit} {g : Int → Option Nat} {v : Int} {d : Nat} (h2 : MapIs D g) (h : w'.ownsMap Tryz.prog 2 (plainElem Tryz.prog 3) b n (D.put (.int .i64 v) (.lit (.int .i64 (d : Int))))) : Holds w' b n (fun x => if x = v then some d else g x) := ⟨_, h, h2.put v d⟩
end Go.Proofs.YtejkoicgbgoiaaaGreat

/- Networks: the walk along the fewest of some airways, by the program. Conditions: the facts on memory and on lengths that each theorem names. -/
namespace Go.Proofs.YtejkoicgbgoiaaaGreat
open Go.RowKit Go.Maps
open Pl
theorem drop_cons' {Q : List Int} {h : Nat} (hh : h < Q.length) : Q.drop h = Q.getD h 0 :: Q.drop (h + 1) := by
  rw [List.drop_eq_getElem_cons hh, getD_pt hh]
theorem drop_push {Q : List Int} {h : Nat} {v : Int} (hh : h ≤ Q.length) : (Q ++ [v]).drop h = Q.drop h ++ [v] := List.drop_append_of_le_length hh
/-- The head of a queue that is not empty. -/
theorem Que.head {base : Nat} {w : World} {g h n cap i : Nat} {Q : List Int} (q : Que base w g h n cap (Q.drop i)) (hi : i < Q.length) : w.cell? ⟨g, h, none⟩ = some (.int .i64 (Q.getD i 0)) := by
  have h1 := q.len
  rw [List.length_drop] at h1
  have := q.cell 0 (by omega)
  rw [drop_cons' hi] at this
  exact this
theorem Que.next {base : Nat} {w : World} {g h cap i : Nat} {Q : List Int} (q : Que base w g h (Q.length - i) cap (Q.drop i)) (hi : i < Q.length) : Que base w g (h + 1) (Q.length - (i + 1)) (cap - 1) (Q.drop (i + 1)) := by
  rw [drop_cons' hi, show Q.length - i = Q.length - (i + 1) + 1 by omega] at q
  exact q.tail
theorem Que.last {base : Nat} {w : World} {g h i : Nat} {Q : List Int} (q : Que base w g h (Q.length - i) 1 (Q.drop i)) : Que base w g h (Q.length - (i + 1)) 0 (Q.drop (i + 1)) := by
  have := q.le
  rw [show Q.length - (i + 1) = 0 by omega, List.drop_eq_nil_of_le (by omega)]
  exact Que.none_ q.ge q.lt
set_option maxRecDepth 100000 in
set_option maxHeartbeats 6400000 in
theorem path_any (N : Nat) (A : Option Addr) (cp : Nat) (xs : List Aw) (a to : Nat) (AE : Option Addr) (ce : Nat) (es : List Int) (w : World) (hI : Recs encA 7 w.heap.size w A xs) (hm : mineB (N : Int) xs = true) (hE : Ints w.heap.size w AE es) (hok : IdxOk xs.length es) (hel : es.length ≤ 24) (ha : a < N) (hto : to < N) :
    Calls Tryz.prog 128 #[.agg #[.int .i64 (N : Int), .slice A xs.length cp], .int .i64 (a : Int), .int .i64 (to : Int), .slice AE es.length ce] w fun e w' => ∃ u, e = .returned (.tuple #[u, .bool (pathF N (edsA xs es) a to).2]) ∧ Own w.heap.size w' u (pathF N (edsA xs es) a to).1 ∧ Below w.heap.size w w' := by
  obtain ⟨R, hR⟩ : ∃ R, R = pathF N (edsA xs es) a to := ⟨_, rfl⟩
  rw [← hR]
  have HR := Lib.hid hR
  clear hR
  obtain ⟨⟨n1, n2⟩, nx, _⟩ := mineB_bd hm
  have HE := Lib.hid (fun p (hp : p < xs.length) => mine_ends hm hp)
  have HG := Lib.hid (edsA_in hm hok)
  have HGL := Lib.hid (edsA_length xs es)
  have HK := Lib.hid hok
  have HM := Lib.hid hm
  have hN1 : 1 ≤ N := by omega
  have hN2 : N ≤ 16 := by omega
  have hxn : xs.length ≤ 24 := by omega
  obtain ⟨i0, hi, hz0, hz1, hz2⟩ := info_parts infoI
  have HF := Lib.hid (And.intro hi (And.intro hz0 (And.intro hz1 hz2)))
  have be0 : Below w.heap.size w (w.alloc (.cells #[.int .i64 (N : Int), .slice A xs.length cp] 33)) := by go_grown
  have k0 : (w.alloc (.cells #[.int .i64 (N : Int), .slice A xs.length cp] 33)).cell? ⟨w.heap.size, 0, none⟩ = some (.int .i64 (N : Int)) := by go_simp
  have k1 : (w.alloc (.cells #[.int .i64 (N : Int), .slice A xs.length cp] 33)).cell? ⟨w.heap.size, 1, none⟩ = some (.slice A xs.length cp) := by go_simp
  have K0 := Lib.hid k0
  have K1 := Lib.hid k1
  have J0 := Lib.hid ((hI.below be0).more be0.size)
  have JE := Lib.hid ((hE.below be0).more be0.size)
  have HZ0 : Hid (w.heap.size + 1 = (w.alloc (.cells #[.int .i64 (N : Int), .slice A xs.length cp] 33)).heap.size) := Lib.hid (by simp)
  have hmade := World.ownsMap_made (w.alloc (.cells #[.int .i64 (N : Int), .slice A xs.length cp] 33)) Tryz.prog 2 (plainElem (H := Unit) Tryz.prog 3)
  have hszz : (w.alloc (.cells #[.int .i64 (N : Int), .slice A xs.length cp] 33)).heap.size = w.heap.size + 1 := by simp
  rw [hszz] at hmade
  have HMade := Lib.hid hmade
  clear hI hm hE hok n1 n2 nx hi hz0 hz1 hz2 k0 k1 hmade hszz
  have hmm := @run_makeMap Tryz.prog
  go_enter Tryz.func128, Tryz.ntmps128
  go_wp2_with (refine wpList_insert_own _ rfl _ _ _ 172 rfl 2 3 lawI Tryz.underlying172 _ (w.heap.size + 1) 0 (.map []) rfl HMade.out (by decide) _ _ _ rfl rfl (keyOf_int_mk Tryz.underlying2 (WalkArith.wf_i64 (by omega))) _ [] (plainElem_int Tryz.underlying3 (by decide)) ?_; intro w1 hown1 hgrow1)
  clear hmm HMade
  generalize hw0 : (w.alloc (.cells #[.int .i64 (N : Int), .slice A xs.length cp] 33)) = w0 at *
  clear hw0
  rw [HZ0.out] at hown1 hgrow1
  have hb1 : Below w0.heap.size w0 w1 := ((Below.refl _ _).alloc (Nat.le_refl _) _).grown hgrow1 (by simp) (fun j hj => by cases hj; exact Nat.le_refl _)
  have HH1 : Hid (Holds w1 w0.heap.size 1 (fun x => if x = (to : Int) then some 0 else none)) := Lib.hid (Holds.step MapIs.empty hown1)
  have hlt1 : w0.heap.size < w1.heap.size := hown1.lt
  clear hown1 hgrow1
  have HZw : Hid (w.heap.size + 1 = w0.heap.size) := HZ0
  have hww : w.heap.size < w0.heap.size := by have := HZ0.out; omega
  rw [HZ0.out]
  go_loopg [11] N (fun kx u wr => ∃ (Q : List Int) (D : List Nat) (h : Nat) (g : Int → Option Nat) (gq hq cap : Nat), Bfs N (edsA xs es) (to : Int) Q D h g ∧ u = .slice (some ⟨gq, hq, none⟩) (Q.length - h) cap ∧ Que w1.heap.size wr gq hq (Q.length - h) cap (Q.drop h) ∧ Holds wr w0.heap.size Q.length g ∧ Below w0.heap.size w0 wr ∧ w1.heap.size ≤ wr.heap.size ∧ N - h ≤ kx)
  case atStart =>
    refine ⟨[(to : Int)], [0], 0, _, w1.heap.size, 0, 1, Bfs.init (by omega) (by omega), rfl, Que.one _ (Nat.le_refl _), HH1.out.later ((Below.refl _ _).alloc (Nat.le_refl _) _), hb1.alloc (by omega) _, by simp, by omega⟩
  case round =>
    obtain ⟨Q, D, h, g, gq, hq, cap, hS, rfl, hQ, hH, hb, hsz1, hkx⟩ := hrel
    have hQl := hS.short
    have hhl := hS.hle
    by_cases hlt : h < Q.length
    · have HQh := Lib.hid hQ
      have hw0r : w0.heap.size < wr.heap.size := by omega
      obtain ⟨x, hx⟩ : ∃ x, Q.getD h 0 = x := ⟨_, rfl⟩
      have HX := Lib.hid hx
      have hnb : decide ((0 : Int) < ((Q.length - h : Nat) : Int)) = true := decide_eq_true (by omega)
      have hnb2 : decide (0 < Q.length - h) = true := decide_eq_true (by omega)
      clear hQ hx
      obtain ⟨wo, hwo⟩ : ∃ wo : World, wo = wr := ⟨_, rfl⟩
      subst hwo
      go_wp2
      go_loopw [11, 38] (fun u pp wi => ∃ (Q : List Int) (D : List Nat) (g : Int → Option Nat) (gq hq cap p : Nat), Bfs N (edsA xs es) (to : Int) Q D h g ∧ h < Q.length ∧ Q.getD h 0 = x ∧ (∀ k, k < p → ∀ v, oth ((edsA xs es).getD k eNone) x = some v → v ∈ Q) ∧ p ≤ es.length ∧ pp = .int .i64 p ∧ u = .slice (some ⟨gq, hq, none⟩) (Q.length - h) cap ∧ Que w1.heap.size wi gq hq (Q.length - h) cap (Q.drop h) ∧ Holds wi w0.heap.size Q.length g ∧ Below w0.heap.size w0 wi ∧ w1.heap.size ≤ wi.heap.size) (fun _ pp _ => es.length - (intOf pp).toNat)
      case atStart => exact ⟨Q, D, g, gq, hq, cap, 0, hS, hlt, HX.out, fun k hk => by omega, Nat.zero_le _, rfl, rfl, HQh.out, hH, hb, hsz1⟩
      case round =>
        clear hS hH HQh
        obtain ⟨Q, D, g, gq, hq, cap, p, hS, hhQ, hx, hdone, hp, rfl, rfl, hQ, hH, hb2, hsz2⟩ := hrel
        have hQN := hS.short
        have m1 := cell_later hb2 K1.out
        by_cases hpl : p < es.length
        · have cx := hQ.head hhQ
          rw [hx] at cx
          obtain ⟨z, hz, hzx⟩ := HK.out p hpl
          obtain ⟨ad2, hAE, _, ce0⟩ := (JE.out.below hb2).atD hpl
          subst hAE
          rw [hz] at ce0
          obtain ⟨⟨s, f, t, l, c, r, q⟩, hax⟩ : ∃ x, xs.getD z aNone = x := ⟨_, rfl⟩
          obtain ⟨b, o, hA, hab, c0, c1, c2, c3, c4, c5, c6⟩ := (J0.out.below hb2).cells7 hzx hax
          subst hA
          have hed : (edsA xs es).getD p eNone = ⟨(z : Int), f, t⟩ := by rw [edsA_get hpl]; unfold edA; rw [hz, Int.toNat_natCast, hax]
          have HED := Lib.hid hed
          have HDN := Lib.hid hdone
          have HXe := Lib.hid hx
          have HV := Lib.hid (fun W => other_any s f t l c r q x (z : Int) W)
          have i0' : (0 : Int) ≤ (p : Int) := by omega
          have i1' : (p : Int) < es.length := by omega
          have z0 : (0 : Int) ≤ (z : Int) := by omega
          have z1 : (z : Int) < xs.length := by omega
          have hl0 : (0 : Int) < ((Q.length - h : Nat) : Int) := by omega
          have hl1 : 0 < Q.length - h := by omega
          have hsz := hb2.size
          have g1 := fun L : Later wr => L.cell m1
          have gx := fun L : Later wr => L.cell cx
          have ge := fun L : Later wr => L.cell ce0
          have g20 := fun L : Later wr => L.cell c0
          have g21 := fun L : Later wr => L.cell c1
          have g22 := fun L : Later wr => L.cell c2
          have g23 := fun L : Later wr => L.cell c3
          have g24 := fun L : Later wr => L.cell c4
          have g25 := fun L : Later wr => L.cell c5
          have g26 := fun L : Later wr => L.cell c6
          have HS := Lib.hid hS
          have HQ2 := Lib.hid hQ
          have HH := Lib.hid hH
          clear hS hQ hH hed hx hz hax hdone
          cases ho : oth ⟨(z : Int), f, t⟩ x with
          | none =>
            rw [ho] at HV
            have HN : Hid (∀ k, k < p + 1 → ∀ v, oth ((edsA xs es).getD k eNone) x = some v → v ∈ Q) := Lib.hid (fun k hk v hv => by
              by_cases e : k = p
              · subst e; rw [HED.out, ho] at hv; cases hv
              · exact HDN.out k (by omega) v hv)
            clear ho
            go_wp2
            refine wp_region_later (by kernel_rfl) (by kernel_rfl) ?_
            repeat (go_big_quiet_step ((go_at_call 161; first | (with_reducible exact later_b (HV.out _)) | (with_reducible exact later_d (HV.out _)) | (with_reducible exact later_s (HV.out _)))))
            refine wpQuiet_nil ?_
            intro _ hw'
            obtain ⟨LL, hw''⟩ := hw'
            subst hw''
            have hlk := (HH.out.later LL.below).look_ok (v := 0) (by omega)
            have HB3 := Lib.hid (hb2.trans (LL.below.mono hsz))
            have hsz3 := LL.below.size
            have HQ3 := Lib.hid (HQ2.out.later LL.below)
            have HH3 := Lib.hid (HH.out.later LL.below)
            clear g1 gx ge g20 g21 g22 g23 g24 g25 g26
            generalize LL.world = wd at *
            go_wp2
            go_roundw
            case rel => exact ⟨Q, D, g, gq, hq, cap, p + 1, HS.out, hhQ, HXe.out, HN.out, by omega, by go_num, rfl, HQ3.out, HH3.out, HB3.out, by omega⟩
            case measure => simp [intOf]; omega
          | some v =>
            rw [ho] at HV
            have hvr : 0 ≤ v ∧ v < N := by
              obtain ⟨hf, ht⟩ := HG.out p (by rw [HGL.out]; exact hpl)
              rw [HED.out] at hf ht
              rcases oth_cases ho with ⟨_, e⟩ | ⟨_, _, e⟩
              · rw [e]; exact ht
              · rw [e]; exact hf
            have hed' : oth ((edsA xs es).getD p eNone) x = some v := by rw [HED.out]; exact ho
            have HO := Lib.hid hed'
            clear ho hed'
            by_cases hq : v ∈ Q
            · have hgs : (g v).isSome = true := (HS.out.mem v).2 hq
              have HN : Hid (∀ k, k < p + 1 → ∀ v, oth ((edsA xs es).getD k eNone) x = some v → v ∈ Q) := Lib.hid (fun k hk v' hv => by
                by_cases e : k = p
                · subst e; rw [HO.out] at hv; injection hv with hv; subst hv; exact hq
                · exact HDN.out k (by omega) v' hv)
              clear hq
              go_wp2
              refine wp_region_later (by kernel_rfl) (by kernel_rfl) ?_
              repeat (go_big_quiet_step ((go_at_call 161; first | (with_reducible exact later_b (HV.out _)) | (with_reducible exact later_d (HV.out _)) | (with_reducible exact later_s (HV.out _)))))
              refine wpQuiet_nil ?_
              intro _ hw'
              obtain ⟨LL, hw''⟩ := hw'
              subst hw''
              have hlk := (HH.out.later LL.below).look_ok (v := v) (by omega)
              rw [hgs] at hlk
              have HB3 := Lib.hid (hb2.trans (LL.below.mono hsz))
              have hsz3 := LL.below.size
              have HQ3 := Lib.hid (HQ2.out.later LL.below)
              have HH3 := Lib.hid (HH.out.later LL.below)
              clear g1 gx ge g20 g21 g22 g23 g24 g25 g26
              generalize LL.world = wd at *
              go_wp2
              go_roundw
              case rel => exact ⟨Q, D, g, gq, hq, cap, p + 1, HS.out, hhQ, HXe.out, HN.out, by omega, by go_num, rfl, HQ3.out, HH3.out, HB3.out, by omega⟩
              case measure => simp [intOf]; omega
            · have hgs : (g v).isSome = false := by
                cases e : (g v).isSome
                · rfl
                · exact absurd ((HS.out.mem v).1 e) hq
              have hgx : g x = some (D.getD h 0) := by rw [← HXe.out]; exact HS.out.at_ hhQ
              have hxr := HS.out.rng x (by rw [← HXe.out]; exact mem_getD hhQ)
              have hdh := HS.out.idx h hhQ
              have HPu := Lib.hid (HS.out.push HG.out hhQ (by rw [HGL.out]; exact hpl) (v := v) (by rw [HXe.out]; exact HO.out) hq)
              have HN : Hid (∀ k, k < p + 1 → ∀ v', oth ((edsA xs es).getD k eNone) x = some v' → v' ∈ Q ++ [v]) := Lib.hid (fun k hk v' hv => by
                by_cases e : k = p
                · subst e; rw [HO.out] at hv; injection hv with hv; subst hv; simp
                · exact List.mem_append_left _ (HDN.out k (by omega) v' hv))
              clear hq
              generalize D.getD h 0 = d at *
              go_wp2
              refine wp_region_later (by kernel_rfl) (by kernel_rfl) ?_
              repeat (go_big_quiet_step ((go_at_call 161; first | (with_reducible exact later_b (HV.out _)) | (with_reducible exact later_d (HV.out _)) | (with_reducible exact later_s (HV.out _)))))
              refine wpQuiet_nil ?_
              intro _ hw'
              obtain ⟨LL, hw''⟩ := hw'
              subst hw''
              have hlk := (HH.out.later LL.below).look_ok (v := v) (by omega)
              rw [hgs] at hlk
              have hl2 := (HH.out.later LL.below).look (v := x) (by omega)
              rw [hgx] at hl2
              have hl2 : (Instr.lookup 172 (.map (some w0.heap.size)) (.int .i64 x) false).run Tryz.prog LL.world = .ok (.int .i64 (d : Int)) LL.world := hl2
              have cx3 := LL.cell cx
              have HB3 := Lib.hid (hb2.trans (LL.below.mono hsz))
              have hsz3 := LL.below.size
              have HQ3 := Lib.hid (HQ2.out.later LL.below)
              obtain ⟨DW, hownD, hIs⟩ := HH.out.later LL.below
              have HOD := Lib.hid hownD
              have HIs := Lib.hid hIs
              have hgq : w1.heap.size ≤ gq := HQ3.out.ge
              clear g1 gx ge g20 g21 g22 g23 g24 g25 g26 hownD hIs
              generalize LL.world = wd at *
              go_wp2_with (first
                | (at_mapUpdate; refine wpList_mapUpdate_own _ rfl _ _ _ 172 rfl 2 3 lawI Tryz.underlying172 _ w0.heap.size Q.length DW rfl HOD.out (by unfold maxLen; omega) _ _ _ rfl rfl (keyOf_int_mk Tryz.underlying2 (WalkArith.wf_i64 (by omega))) _ [] (plainElem_int Tryz.underlying3 (WalkArith.wf_i64 (by omega))) ?_; intro w4 hown4 hgrow4; have HQ4 := Lib.hid (HQ3.out.kept hgrow4.size (hgrow4.block gq HQ3.out.lt (fun e => by injection e with e; omega))); have hsz4 : w1.heap.size ≤ w4.heap.size := Nat.le_trans (by omega) hgrow4.size; have HO4 := Lib.hid hown4; have HG4 := Lib.hid hgrow4; clear hown4 hgrow4)
                | (at_builtin; refine wpList_append_que _ rfl _ _ 25 rfl i0 Tryz.underlying25 HF.out.1 HF.out.2.1 HF.out.2.2.1 HF.out.2.2.2 w1.heap.size gq hq (Q.length - h) cap (Q.drop h) rfl (HQ4.out.later ((Below.refl _ _).alloc (Nat.le_refl _) _)) ⟨w4.heap.size, 0, none⟩ v rfl (cell_one_new _ _ _) (by omega) (by simp; omega) ?_; intro g5 h5 cap5 w5 hq5 hb5))
              have hb45 : Below w1.heap.size w4 w5 := ((Below.refl _ w4).alloc hsz4 _).trans hb5
              have HH5 : Hid (Holds w5 w0.heap.size (Q.length + 1) (fun y => if y = v then some (d + 1) else g y)) := Lib.hid ((Holds.step (d := d + 1) HIs.out HO4.out).kept (hb45.block _ hlt1))
              have HB5 := Lib.hid ((HB3.out.grown HG4.out (by omega) (fun j hj => by cases hj; exact Nat.le_refl _)).trans (hb45.mono (by omega)))
              have hsz5 : w1.heap.size ≤ w5.heap.size := Nat.le_trans hsz4 hb45.size
              have hlen : (Q ++ [v]).length = Q.length + 1 := by simp
              have heq : (Q ++ [v]).length - h = Q.length - h + 1 := by rw [hlen]; omega
              have HQ5 : Hid (Que w1.heap.size w5 g5 h5 ((Q ++ [v]).length - h) cap5 ((Q ++ [v]).drop h)) := Lib.hid (by rw [heq, drop_push (by omega)]; exact hq5)
              have HL := Lib.hid hlen
              have HE2 := Lib.hid heq
              clear hq5 hb5 hb45 HO4 HG4 hlen heq
              go_roundw
              case rel => exact ⟨Q ++ [v], D ++ [d + 1], _, g5, h5, cap5, p + 1, HPu.out, by rw [HL.out]; omega, by rw [getD_app hhQ]; exact HXe.out, HN.out, by omega, by go_num, by rw [HE2.out], HQ5.out, by rw [HL.out]; exact HH5.out, HB5.out, hsz5⟩
              case measure => simp [intOf]; omega
        · obtain rfl : p = es.length := by omega
          have HS := Lib.hid (hS.next hhQ (fun k hk v hv => hdone k (by rw [← HGL.out]; exact hk) v (by rw [← hx]; exact hv)))
          have HQ2 := Lib.hid hQ
          have HH := Lib.hid hH
          clear hS hQ hH
          obtain ⟨hh, rfl⟩ : ∃ hh, hh = h := ⟨_, rfl⟩
          go_wp2
          · go_roundg (N - (hh + 1))
            case measure => omega
            case rel => exact ⟨Q, D, hh + 1, g, gq, hq, 0, HS.out, by rw [Nat.sub_sub], Que.last (by have h2 := HQ2.out; rw [show cap = 1 by omega] at h2; exact h2), HH.out, hb2, hsz2, by omega⟩
          · go_roundg (N - (hh + 1))
            case measure => omega
            case rel => exact ⟨Q, D, hh + 1, g, gq, hq + 1, cap - 1, HS.out, by rw [Nat.sub_sub], HQ2.out.next hhQ, HH.out, hb2, hsz2, by omega⟩
    · obtain rfl : h = Q.length := by omega
      have hgv : ∀ v, g v = if 0 ≤ dst (edsA xs es) to N v then some (dst (edsA xs es) to N v).toNat else none := hS.end_
      have HGV := Lib.hid hgv
      have HS := Lib.hid hS
      have HH := Lib.hid hH
      have hzz : Q.length - Q.length = 0 := by omega
      rw [hzz]
      clear hS hH hQ hgv hzz
      have hlk := HH.out.look_ok (v := (a : Int)) (by omega)
      obtain ⟨x, hxa⟩ : ∃ x, dst (edsA xs es) to N a = x := ⟨_, rfl⟩
      have hbd := dst_or (edsA xs es) to N a
      rw [hxa] at hbd
      have HXA := Lib.hid hxa
      by_cases hx0 : 0 ≤ x
      rotate_left
      · have HN : Hid (R = ([], false)) := Lib.hid (by rw [HR.out]; unfold pathF; rw [if_neg (by rw [HXA.out]; omega)])
        rw [HGV.out (a : Int), if_neg (by rw [HXA.out]; exact hx0)] at hlk
        have hlk2 : (Instr.lookup 172 (.map (some w0.heap.size)) (.int .i64 (a : Int)) true).run Tryz.prog wr = .ok (.tuple #[.int .i64 0, .bool false]) wr := hlk
        clear hlk hxa
        go_wp2
        go_ret2
        refine ⟨.slice none 0 0, ret_vb (by rw [HN.out]), ?_, be0.trans (hb.mono be0.size)⟩
        rw [HN.out]; exact Own.nil_ _ _
      have HN : Hid (R = (walkF (edsA xs es) (dst (edsA xs es) to N) x.toNat a, true)) := Lib.hid (by rw [HR.out]; unfold pathF; rw [if_pos (by rw [HXA.out]; exact hx0), HXA.out])
      rw [HGV.out (a : Int), if_pos (by rw [HXA.out]; exact hx0), HXA.out] at hlk
      have hlk2 : (Instr.lookup 172 (.map (some w0.heap.size)) (.int .i64 (a : Int)) true).run Tryz.prog wr = .ok (.tuple #[.int .i64 ((x.toNat : Nat) : Int), .bool true]) wr := hlk
      clear hlk hxa
      obtain ⟨wo, hwo⟩ : ∃ wo : World, wo = wr := ⟨_, rfl⟩
      subst hwo
      go_wp2
      clear hlk2
      go_loopw [20, 21] (fun u at_ wo2 => ∃ (c m : Nat) (ys : List Int), c < N ∧ at_ = .int .i64 c ∧ dst (edsA xs es) to N c = m ∧ m ≤ 16 ∧ ys.length + m ≤ 16 ∧ ys ++ walkF (edsA xs es) (dst (edsA xs es) to N) m c = R.1 ∧ Below wo.heap.size wo wo2 ∧ Own wo.heap.size wo2 u ys) (fun _ at_ _ => (dst (edsA xs es) to N (intOf at_)).toNat)
      case atStart =>
        refine ⟨a, x.toNat, [], ha, rfl, by rw [HXA.out]; omega, by omega, by simp; omega, by rw [HN.out]; rfl, Below.refl _ _, Own.nil_ _ _⟩
      case round =>
        obtain ⟨c, m, ys, hc, rfl, hcm, hm16, hym, hR, hb4, hou⟩ := hrel
        obtain ⟨wp, hwp⟩ : ∃ wp : World, wp = wr := ⟨_, rfl⟩
        subst hwp
        have HRX := Lib.hid hR
        have HCM := Lib.hid hcm
        have HOU := Lib.hid hou
        clear hR hcm hou
        have hwo4 : w.heap.size ≤ wo.heap.size := by have := hb.size; omega
        by_cases hct : c = to
        · subst hct
          have hm0 : m = 0 := by
            have h := HCM.out
            rw [dst_to] at h; omega
          have HE2 : Hid (R.1 = ys) := Lib.hid (by
            rw [← HRX.out, hm0]; unfold walkF; simp)
          go_wp2
          go_ret2
          refine ⟨_, ret_vb (by rw [HN.out]), ?_, be0.trans ((hb.trans (hb4.mono hb.size)).mono be0.size)⟩
          rw [HE2.out]
          exact HOU.out.base (fun g' h => by have := (World.ownsRow.lt HOU.out g' h).1; omega)
        · have hctb : ((c : Int) != (to : Int)) = true := by rw [bne_iff_ne]; omega
          have hm1 : m ≠ 0 := fun e => hct (by
            have h := HCM.out
            rw [e] at h
            have := dst_zero_at h; omega)
          obtain ⟨m', rfl⟩ : ∃ m', m = m' + 1 := ⟨m - 1, by omega⟩
          obtain ⟨j, hj, hn1, hn2⟩ := near_some HCM.out
          have HJ1 := Lib.hid hn1
          have HJ2 := Lib.hid hn2
          have HWS := Lib.hid (walkF_succ (s := m') hj hn1 hn2)
          have hj : j < es.length := by rw [← HGL.out]; exact hj
          clear hn1 hn2
          go_wp2
          go_loopw [20, 21, 92] (fun uu aa ii wi => ∃ i : Nat, i ≤ j ∧ uu = u20 ∧ aa = .int .i64 c ∧ ii = .int .i64 i ∧ Below wp.heap.size wp wi) (fun _ _ ii _ => es.length - (intOf ii).toNat)
          case atStart => exact ⟨0, Nat.zero_le _, rfl, rfl, rfl, Below.refl _ _⟩
          case round =>
            obtain ⟨i, hi, rfl, rfl, rfl, hb5⟩ := hrel
            have hil : i < es.length := by omega
            have hbo := hb4.trans (hb5.mono hb4.size)
            have hbw := hb.trans (hbo.mono hb.size)
            have m0 := cell_later hbw K0.out
            have m1 := cell_later hbw K1.out
            obtain ⟨p, hp, hpx⟩ := HK.out i hil
            obtain ⟨F, T, hF, hT, hFN, hTN, hne⟩ := HE.out p hpx
            obtain ⟨ad, hAE, hadb, ce0⟩ := (JE.out.below hbw).atD hil
            rw [hp] at ce0
            subst hAE
            obtain ⟨⟨s, f, t, l, ca, rr, k⟩, hx⟩ : ∃ x, xs.getD p aNone = x := ⟨_, rfl⟩
            obtain ⟨b, o, hA, hab, c0, c1, c2, c3, c4, c5, c6⟩ := (J0.out.below hbw).cells7 hpx hx
            subst hA
            have hea : edA xs (p : Int) = ⟨(p : Int), f, t⟩ := by unfold edA; rw [Int.toNat_natCast, hx]
            have hed : (edsA xs es).getD i eNone = ⟨(p : Int), f, t⟩ := by rw [edsA_get hil, hp, hea]
            rw [hx] at hF hT
            have hF : f = (F : Int) := hF
            have hT : t = (T : Int) := hT
            have HV := Lib.hid (fun W => other_any s f t l ca rr k (c : Int) (p : Int) W)
            have HIJ : Hid (i < j → nearB (dst (edsA xs es) to N) c ⟨(p : Int), f, t⟩ = false) := Lib.hid (fun h => by rw [← hed]; exact HJ2.out i h)
            have HIE : Hid (i = j → nearB (dst (edsA xs es) to N) c ⟨(p : Int), f, t⟩ = true ∧ walkF (edsA xs es) (dst (edsA xs es) to N) (m' + 1) c = sgn ⟨(p : Int), f, t⟩ c :: walkF (edsA xs es) (dst (edsA xs es) to N) m' ((oth ⟨(p : Int), f, t⟩ c).getD 0)) := Lib.hid (by
              rintro rfl
              rw [← hed]
              exact ⟨HJ1.out, HWS.out⟩)
            have HO5 := Lib.hid (HOU.out.later hb5)
            have hi0 : (0 : Int) ≤ (i : Int) := by omega
            have hi1 : (i : Int) < es.length := by omega
            have hp0 : (0 : Int) ≤ (p : Int) := by omega
            have hp1 : (p : Int) < xs.length := by omega
            have hszb : wo.heap.size ≤ wr.heap.size := hbo.size
            have hyl : ys.length ≤ 16 := by omega
            have HHr := Lib.hid (HH.out.later hbo)
            have HHed := Lib.hid hed
            have HHea := Lib.hid hea
            clear hed hea hx hp
            cases ho : oth ⟨(p : Int), f, t⟩ (c : Int) with
            | none =>
              rw [ho] at HV
              have hij : i < j := by
                rcases Nat.lt_or_ge i j with h | h
                · exact h
                · have h2 := (HIE.out (by omega)).1
                  unfold nearB at h2; rw [ho] at h2; cases h2
              clear ho HIJ HIE hF hT
              go_wp2_with (go_at_call 161; refine (HV.out _).mono ?_; rintro e w6 ⟨rfl, hb6⟩)
              have hb7 := hb5.trans (hb6.mono hb5.size)
              go_roundw
              case rel => exact ⟨i + 1, by omega, rfl, rfl, by go_num, hb7⟩
              case measure => simp [intOf]; omega
            | some v =>
              rw [ho] at HV
              have hvV : ∃ V : Nat, V < N ∧ v = (V : Int) := by
                rcases oth_cases ho with ⟨_, e⟩ | ⟨_, _, e⟩
                · have e : v = t := e
                  exact ⟨T, hTN, by rw [e, hT]⟩
                · have e : v = f := e
                  exact ⟨F, hFN, by rw [e, hF]⟩
              obtain ⟨V, hVN, rfl⟩ := hvV
              have hcQ : (c : Int) ∈ Q := (HS.out.mem _).1 (by rw [HGV.out, if_pos (by rw [HCM.out]; omega)]; rfl)
              have hVQ : (V : Int) ∈ Q := by
                obtain ⟨ic, hic, e⟩ := getD_of_mem 0 hcQ
                exact HS.out.done ic hic i (by rw [HGL.out]; exact hil) _ (by rw [e, HHed.out]; exact ho)
              have hV0 : 0 ≤ dst (edsA xs es) to N V := by
                have h1 := (HS.out.mem _).2 hVQ
                rw [HGV.out] at h1
                by_cases h2 : 0 ≤ dst (edsA xs es) to N V
                · exact h2
                · rw [if_neg h2] at h1; cases h1
              have hnb : nearB (dst (edsA xs es) to N) c ⟨(p : Int), f, t⟩ = (dst (edsA xs es) to N V == dst (edsA xs es) to N c - 1) := by unfold nearB; rw [ho]
              have hbV := dst_or (edsA xs es) to N V
              have HNB := Lib.hid hnb
              have HOo := Lib.hid ho
              have HYd : ∃ y, dst (edsA xs es) to N V = y := ⟨_, rfl⟩
              obtain ⟨y, hy⟩ := HYd
              rw [hy] at hV0 hbV
              have HY := Lib.hid hy
              have hlV : ∀ W, Holds W w0.heap.size Q.length g → (Instr.lookup 172 (.map (some w0.heap.size)) (.int .i64 (V : Int)) false).run Tryz.prog W = .ok (.int .i64 y) W := fun W hW => by
                have h1 := hW.look (v := (V : Int)) (by omega)
                rw [HGV.out, if_pos (by rw [HY.out]; exact hV0), HY.out] at h1
                rw [h1, show ((some y.toNat).getD 0 : Nat) = y.toNat from rfl, Int.toNat_of_nonneg hV0]
              have hlC : ∀ W, Holds W w0.heap.size Q.length g → (Instr.lookup 172 (.map (some w0.heap.size)) (.int .i64 (c : Int)) false).run Tryz.prog W = .ok (.int .i64 ((m' + 1 : Nat) : Int)) W := fun W hW => by
                have h1 := hW.look (v := (c : Int)) (by omega)
                rw [HGV.out, if_pos (by rw [HCM.out]; omega), HCM.out] at h1
                exact h1
              have HLV := Lib.hid hlV
              have HLC := Lib.hid hlC
              clear hlV hlC ho hnb hy hcQ hVQ
              obtain ⟨zc, hzc⟩ : ∃ zc : Int, ((m' + 1 : Nat) : Int) = zc := ⟨_, rfl⟩
              have hzc1 : 1 ≤ zc ∧ zc ≤ 16 := by omega
              rw [hzc] at HLC
              have HZC := Lib.hid hzc
              clear hzc
              have hwz : IntKind.i64.wrap (zc - 1) = zc - 1 := IntWalk.i64_in _ (by omega)
              have HT6 : Hid (∀ W, Below wr.heap.size wr W → ((Instr.lookup 172 (.map (some w0.heap.size)) (.int .i64 (V : Int)) false).run Tryz.prog W = .ok (.int .i64 y) W ∧ (Instr.lookup 172 (.map (some w0.heap.size)) (.int .i64 (c : Int)) false).run Tryz.prog W = .ok (.int .i64 zc) W) ∧ (W.cell? ⟨w.heap.size, 0, none⟩ = some (.int .i64 (N : Int)) ∧ W.cell? ⟨w.heap.size, 1, none⟩ = some (.slice (some ⟨b, o, none⟩) xs.length cp)) ∧ Own wo.heap.size W u20 ys ∧ wo.heap.size ≤ W.heap.size ∧ Recs encA 7 W.heap.size W (some ⟨b, o, none⟩) xs) := Lib.hid (fun W hW => by
                have hbo6 := hbo.trans (hW.mono hbo.size)
                have hb06 := hb.trans (hbo6.mono hb.size)
                exact ⟨⟨HLV.out _ (HHr.out.later hW), HLC.out _ (HHr.out.later hW)⟩, ⟨cell_later hW m0, cell_later hW m1⟩, HO5.out.later hW, hbo6.size, (J0.out.below hb06).more hb06.size⟩)
              have HBO := Lib.hid hbo
              by_cases hij : i < j
              · have hyb : (y == zc - 1) = false := by
                  have h := HIJ.out hij
                  rw [HNB.out, HY.out, HCM.out, HZC.out] at h
                  exact h
                clear HIJ HIE hF hT HNB
                go_wp2_with (go_at_call 161; refine (HV.out _).mono ?_; rintro e w6 ⟨rfl, hb6⟩; obtain ⟨⟨hl1, hl2⟩, -, -⟩ := HT6.out _ hb6)
                have hb7 := hb5.trans (hb6.mono hb5.size)
                go_roundw
                case rel => exact ⟨i + 1, by omega, rfl, rfl, by go_num, hb7⟩
                case measure => simp [intOf]; omega
              · obtain ⟨h5, h6⟩ := HIE.out (by omega)
                have hyb : (y == zc - 1) = true := by
                  rw [HNB.out, HY.out, HCM.out, HZC.out] at h5
                  exact h5
                rw [HOo.out] at h6
                have h6 : walkF (edsA xs es) (dst (edsA xs es) to N) (m' + 1) c = sgn ⟨(p : Int), f, t⟩ c :: walkF (edsA xs es) (dst (edsA xs es) to N) m' (V : Int) := h6
                have H6 := Lib.hid h6
                have hq2 : dst (edsA xs es) to N V = (m' : Int) := by
                  have h1 := HZC.out
                  rw [beq_iff_eq] at hyb
                  rw [HY.out]; omega
                have HQ2 := Lib.hid hq2
                have HST : Hid (∀ W, Recs encA 7 W.heap.size W (some ⟨b, o, none⟩) xs → Calls Tryz.prog 162 #[.agg #[.int .i64 (N : Int), .slice (some ⟨b, o, none⟩) xs.length cp], .int .i64 (p : Int), .int .i64 (c : Int)] W fun e w' => e = .returned (.int .i64 (sgn ⟨(p : Int), f, t⟩ c)) ∧ Below W.heap.size W w') := Lib.hid (fun W hW => by
                  rw [← HHea.out]
                  exact step_any (N : Int) (some ⟨b, o, none⟩) cp xs p (c : Int) W.heap.size W (by omega) hW (Nat.le_refl _) hpx)
                clear HIJ HIE hF hT HNB h5 h6 hq2
                generalize sgn ⟨(p : Int), f, t⟩ (c : Int) = sg at *
                go_wp2_with (first
                  | (go_at_call 161; refine (HV.out _).mono ?_; rintro e w6 ⟨rfl, hb6⟩; obtain ⟨⟨hl1, hl2⟩, ⟨m06, m16⟩, ho6, hsz6, hr6⟩ := HT6.out _ hb6; have HO6 := Lib.hid ho6; have HR6 := Lib.hid hr6; clear ho6 hr6 m0 m1)
                  | (go_at_call 162; refine (HST.out _ HR6.out).mono ?_; rintro e w3 ⟨rfl, hb3⟩; have HO3 := Lib.hid (HO6.out.later hb3); have hsz3 : wo.heap.size ≤ w3.heap.size := Nat.le_trans hsz6 hb3.size)
                  | (at_builtin; refine wpList_append_own_at _ rfl _ _ 25 rfl wo.heap.size 2 i0 (.int .i64 0) 1 8 Tryz.underlying25 HF.out.1 HF.out.2.1 HF.out.2.2.1 HF.out.2.2.2 rfl (by decide) _ _ _ rfl (HO3.out.later ((Below.refl _ _).alloc (Nat.le_refl _) _)) ⟨w3.heap.size, 0, none⟩ 1 1 [.int .i64 sg] rfl rfl (cell_one_new _ _ _) (by intro u hu; simp at hu; subst hu; rfl) (le_max (by omega)) (by omega) (by simp; omega) ?_; intro av aw ah ag an aa))
                have hbo6 := HBO.out.trans (hb6.mono HBO.out.size)
                have hbe2 : Below wo.heap.size wo aw := Below.appended (hbo6.trans (hb3.mono hbo6.size)) HO3.out hsz3 ag
                have ho' := Own.appended ah
                clear ah ag an aa
                have HO4 := Lib.hid ho'
                clear ho'
                go_roundw
                case rel => exact ⟨V, m', ys ++ [sg], hVN, rfl, HQ2.out, by omega, by simp; omega, by rw [List.append_assoc, List.singleton_append, ← H6.out]; exact HRX.out, hbe2, HO4.out⟩
                case measure => have q1 := HCM.out; have q2 := HQ2.out; simp [intOf, q1, q2] <;> omega
end Go.Proofs.YtejkoicgbgoiaaaGreat
