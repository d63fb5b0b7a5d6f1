/- Potentials of a mine: the program's rounds and the reference's, both as the plain ones. Conditions: the facts on memory and on lengths that each theorem names. -/
import Derived.Test.YtlgagnbnjfneaaaBoo
namespace Go.Proofs.Ytlgagnbnjfneaaa
open Go.RowKit
open Pl
theorem rnd_step {xs : List Aw} {gs : List Int} {rs : List Bool} {k : Nat} {d D : List Int} {m : Bool} (hD : rnd xs gs rs k d = D) (hM : mvd xs gs rs k d = m) (hne : aF xs k ≠ aT xs k) (hT : aT xs k < D.length) :
    (D.getD (aF xs k) 0 + gs.getD k 0 < D.getD (aT xs k) 0 → rnd xs gs rs (k + 1) d = D.set (aT xs k) (D.getD (aF xs k) 0 + gs.getD k 0) ∧ mvd xs gs rs (k + 1) d = true) ∧
    (¬ D.getD (aF xs k) 0 + gs.getD k 0 < D.getD (aT xs k) 0 → rs.getD k false = false → D.getD (aT xs k) 0 - gs.getD k 0 < D.getD (aF xs k) 0 → rnd xs gs rs (k + 1) d = D.set (aF xs k) (D.getD (aT xs k) 0 - gs.getD k 0) ∧ mvd xs gs rs (k + 1) d = true) ∧
    (¬ D.getD (aF xs k) 0 + gs.getD k 0 < D.getD (aT xs k) 0 → (rs.getD k false = true ∨ ¬ D.getD (aT xs k) 0 - gs.getD k 0 < D.getD (aF xs k) 0) → rnd xs gs rs (k + 1) d = D ∧ mvd xs gs rs (k + 1) d = m) := by
  have e1 : rnd xs gs rs (k + 1) d = st2 xs gs rs k (st1 xs gs k D) := by rw [← hD]; rfl
  have e2 : mvd xs gs rs (k + 1) d = ((m || fr1 xs gs k D) || fr2 xs gs rs k (st1 xs gs k D)) := by rw [← hD, ← hM]; rfl
  refine ⟨fun h => ?_, fun h hr h2 => ?_, fun h h2 => ?_⟩
  · have a : st1 xs gs k D = D.set (aT xs k) (D.getD (aF xs k) 0 + gs.getD k 0) := rlx_yes h
    have b : fr1 xs gs k D = true := decide_eq_true h
    rw [e1, e2, a, b]
    refine ⟨?_, by simp⟩
    unfold st2
    split
    · rfl
    · refine rlx_no ?_
      rw [getD_set _ _ _ _ hT, getD_set _ _ _ _ hT, if_pos rfl, if_neg hne]
      omega
  · have a : st1 xs gs k D = D := rlx_no h
    rw [e1, e2, a]
    have b : fr2 xs gs rs k D = true := by unfold fr2; rw [hr]; exact decide_eq_true (by omega)
    rw [b]
    refine ⟨?_, by simp⟩
    unfold st2
    rw [hr]
    exact rlx_yes (by omega)
  · have a : st1 xs gs k D = D := rlx_no h
    have b : fr1 xs gs k D = false := decide_eq_false h
    rw [e1, e2, a, b]
    have c : fr2 xs gs rs k D = false := by
      unfold fr2
      rcases h2 with h2 | h2
      · rw [h2]; rfl
      · split
        · rfl
        · exact decide_eq_false (by omega)
    rw [c]
    refine ⟨?_, by simp⟩
    unfold st2
    split
    · rfl
    · rename_i hr
      refine rlx_no ?_
      rcases h2 with h2 | h2
      · exact absurd h2 hr
      · omega
theorem awOk_ne {J : Int} {xs : List Aw} (h : mineB J xs = true) {k : Nat} (hk : k < xs.length) : aF xs k ≠ aT xs k := by
  obtain ⟨_, _, h3⟩ := mineB_bd h
  obtain ⟨_, _, h5, _⟩ := airwayB_bd (h3 k hk).1
  obtain ⟨_, hk2⟩ := mineB_ends h
  obtain ⟨e1, e2⟩ := hk2 k hk
  omega
theorem Own.row {base : Nat} {w : World} {A : Option Addr} {n c : Nat} {xs : List Int} (h : Own base w (.slice A n c) xs) (hn : 0 < n) (hl : xs.length = n) : ∃ g, A = some ⟨g, 0, none⟩ ∧ base ≤ g ∧ w.ownsRow base 2 1 (.slice (some ⟨g, 0, none⟩) n c) n (vals xs) := by
  rcases h.form with ⟨he, hx⟩ | ⟨g, c', he, hg1, hg2⟩
  · injection he; omega
  · injection he with e1 e2 e3
    subst e1
    refine ⟨g, rfl, hg1, ?_⟩
    unfold Own at h
    rw [hl] at h
    exact h
theorem drewN_row {base n : Nat} {w : World} {T : TypeId} {s : Nat} {v : Value} {ys : List Value} (h : w.ownsRow base T s v n ys) (k : Nat) : (w.drewN k).ownsRow base T s v n ys :=
  World.ownsRow.kept h (row := none) ⟨rfl, rfl, rfl, Nat.le_refl _, fun _ _ _ => rfl⟩ (by cases v.ownBlock <;> simp)
theorem fit_store {base g N T : Nat} {w w1 w2 : World} {c : Nat} {D : List Int} {v : Int} {o : Obj} {n : Nat} (h : w.ownsRow base 2 1 (.slice (some ⟨g, 0, none⟩) N c) N (vals D)) (hb : Below (base) w1 w) (hg : base ≤ g) (hw : w2 = (((w.alloc o).drewN n).setCell ⟨g, T, none⟩ (.int .i64 v))) :
    Below base w1 w2 ∧ w2.ownsRow base 2 1 (.slice (some ⟨g, 0, none⟩) N c) N (vals (D.set T v)) := by
  subst hw
  have hsz : base ≤ w.heap.size := by have := (World.ownsRow.lt h g rfl).2; omega
  refine ⟨(below_drewN (hb.alloc hsz _) n).setCell (by simpa using hg) _, ?_⟩
  obtain ⟨r1, _⟩ := World.ownsRow.stored (drewN_row (World.ownsRow.alloc h o) n) T (.int .i64 v)
  rw [vals_set] at r1
  exact r1
theorem fit_keep {base g N : Nat} {w w1 w2 : World} {c : Nat} {D : List Int} {o : Obj} {n : Nat} (h : w.ownsRow base 2 1 (.slice (some ⟨g, 0, none⟩) N c) N (vals D)) (hb : Below (base) w1 w) (hg : base ≤ g) (hw : w2 = ((w.alloc o).drewN n)) :
    Below base w1 w2 ∧ w2.ownsRow base 2 1 (.slice (some ⟨g, 0, none⟩) N c) N (vals D) := by
  subst hw
  have hsz : base ≤ w.heap.size := by have := (World.ownsRow.lt h g rfl).2; omega
  exact ⟨below_drewN (hb.alloc hsz _) n, drewN_row (World.ownsRow.alloc h o) n⟩
theorem fit_drew {base g N : Nat} {w w1 : World} {c : Nat} {D : List Int} (h : Below base w1 w ∧ w.ownsRow base 2 1 (.slice (some ⟨g, 0, none⟩) N c) N (vals D)) (n : Nat) :
    Below base w1 (w.drewN n) ∧ (w.drewN n).ownsRow base 2 1 (.slice (some ⟨g, 0, none⟩) N c) N (vals D) := ⟨below_drewN h.1 n, drewN_row h.2 n⟩
theorem fit_set {base g N : Nat} {w w1 : World} {c : Nat} {D : List Int} (h : Below base w1 w ∧ w.ownsRow base 2 1 (.slice (some ⟨g, 0, none⟩) N c) N (vals D)) (hg : base ≤ g) (T : Nat) (v : Int) :
    Below base w1 (w.setCell ⟨g, T, none⟩ (.int .i64 v)) ∧ (w.setCell ⟨g, T, none⟩ (.int .i64 v)).ownsRow base 2 1 (.slice (some ⟨g, 0, none⟩) N c) N (vals (D.set T v)) := by
  obtain ⟨r1, _⟩ := World.ownsRow.stored h.2 T (.int .i64 v)
  rw [vals_set] at r1
  exact ⟨h.1.setCell (by simpa using hg) _, r1⟩
theorem fitGo_stop {xs : List Aw} {gs : List Int} {rs : List Bool} {n M q : Nat} {d : List Int} (hq : q < M) (h : mvd xs gs rs n d = false) : fitGo xs gs rs n (M - q) d = some (rnd xs gs rs n d) := by
  obtain ⟨r, e⟩ : ∃ r, M - q = r + 1 := ⟨M - q - 1, by omega⟩
  rw [e]; unfold fitGo; rw [h]; rfl
theorem fitGo_go {xs : List Aw} {gs : List Int} {rs : List Bool} {n M q : Nat} {d : List Int} (hq : q < M) (h : mvd xs gs rs n d = true) : fitGo xs gs rs n (M - q) d = fitGo xs gs rs n (M - (q + 1)) (rnd xs gs rs n d) := by
  obtain ⟨r, e⟩ : ∃ r, M - q = r + 1 := ⟨M - q - 1, by omega⟩
  rw [e, show M - (q + 1) = r by omega]; rw [fitGo, h]; rfl
theorem fitGo_none {xs : List Aw} {gs : List Int} {rs : List Bool} {n : Nat} {d : List Int} : fitGo xs gs rs n 0 d = none := rfl
theorem Own.of_row {b base g n c : Nat} {w : World} {D : List Int} (h : w.ownsRow base 2 1 (.slice (some ⟨g, 0, none⟩) n c) n (vals D)) (hl : D.length = n) (hb : b ≤ g) : Own b w (.slice (some ⟨g, 0, none⟩) n c) D := by
  refine Own.base (b := base) (by unfold Own; rw [hl]; exact h) (fun g' h' => ?_)
  have e : some g = some g' := h'
  injection e with e
  omega
theorem ret_vb {v : Value} {a b : Bool} (h : a = b) : Ending.returned (.tuple #[v, .bool a]) = .returned (.tuple #[v, .bool b]) := by rw [h]
set_option maxRecDepth 100000 in
set_option maxHeartbeats 3200000 in
theorem potentials_any (N : Nat) (A : Option Addr) (cp : Nat) (xs : List Aw) (AG : Option Addr) (cg : Nat) (gs : List Int) (A3 : Option Addr) (c3 : Nat) (rs : List Bool) (w : World) (hI : Recs encA 7 w.heap.size w A xs) (hm : mineB (N : Int) xs = true)
    (hG : Ints w.heap.size w AG gs) (lg : gs.length = xs.length) (hg : ∀ k, k < xs.length → -1100000 ≤ gs.getD k 0 ∧ gs.getD k 0 ≤ 1100000) (hR : Bools w.heap.size w A3 rs) (lr : rs.length = xs.length) :
    Calls Try.prog 59 #[.agg #[.int .i64 (N : Int), .slice A xs.length cp, .slice AG gs.length cg, .slice A3 rs.length c3]] w fun e w' => ∃ v, e = .returned (.tuple #[v, .bool (fitF xs gs rs (N : Int)).isSome]) ∧ Own w.heap.size w' v ((fitF xs gs rs (N : Int)).getD []) ∧ Below w.heap.size w w' := by
  obtain ⟨R, hRR⟩ : ∃ R, R = fitF xs gs rs (N : Int) := ⟨_, rfl⟩
  rw [← hRR]
  have HR : Hid (R = fitGo xs gs rs xs.length (N + 1) (List.replicate N 0)) := Lib.hid (by rw [hRR]; unfold fitF; rw [Int.toNat_natCast])
  clear hRR
  obtain ⟨⟨n1, n2⟩, nx, hb0⟩ := mineB_bd hm
  obtain ⟨hE, hft⟩ := mineB_ends hm
  rw [Int.toNat_natCast] at hE
  have HE := Lib.hid hE
  have HFT := Lib.hid hft
  have HNE := Lib.hid (fun k (hk : k < xs.length) => awOk_ne hm hk)
  have HG := Lib.hid hG
  have HGd := Lib.hid hg
  have HB := Lib.hid hR
  have J0 := Lib.hid hI
  have LG := Lib.hid lg
  have LR := Lib.hid lr
  clear hI hm hG lg hg hR lr hE hft hb0
  have hN1 : 1 ≤ N := by omega
  have hN2 : N ≤ 16 := by omega
  have hxn : xs.length ≤ 24 := by omega
  clear n1 n2 nx
  have B0 : Below w.heap.size w (w.alloc (.cells #[.int .i64 (N : Int), .slice A xs.length cp, .slice AG gs.length cg, .slice A3 rs.length c3] 85)) := by go_grown
  have m0 : ((w.alloc (.cells #[.int .i64 (N : Int), .slice A xs.length cp, .slice AG gs.length cg, .slice A3 rs.length c3] 85))).cell? ⟨w.heap.size, 0, none⟩ = some (.int .i64 (N : Int)) := by go_simp
  have m1 : ((w.alloc (.cells #[.int .i64 (N : Int), .slice A xs.length cp, .slice AG gs.length cg, .slice A3 rs.length c3] 85))).cell? ⟨w.heap.size, 1, none⟩ = some (.slice A xs.length cp) := by go_simp
  have m2 : ((w.alloc (.cells #[.int .i64 (N : Int), .slice A xs.length cp, .slice AG gs.length cg, .slice A3 rs.length c3] 85))).cell? ⟨w.heap.size, 2, none⟩ = some (.slice AG gs.length cg) := by go_simp
  have m3 : ((w.alloc (.cells #[.int .i64 (N : Int), .slice A xs.length cp, .slice AG gs.length cg, .slice A3 rs.length c3] 85))).cell? ⟨w.heap.size, 3, none⟩ = some (.slice A3 rs.length c3) := by go_simp
  obtain ⟨i0, hi, hz0, hz1, hz2⟩ := info_parts infoI
  have hbb : i0.bytes * N ≤ 281474976710656 := by rw [hz2]; omega
  have hmx : N ≤ maxLen := le_max (by omega)
  have HM : Hid (∀ w1, ((w.alloc (.cells #[.int .i64 (N : Int), .slice A xs.length cp, .slice AG gs.length cg, .slice A3 rs.length c3] 85))).grownBy w1 none → Below w.heap.size w w1 ∧ w1.cell? ⟨w.heap.size, 0, none⟩ = some (.int .i64 (N : Int)) ∧ w1.cell? ⟨w.heap.size, 1, none⟩ = some (.slice A xs.length cp) ∧ w1.cell? ⟨w.heap.size, 2, none⟩ = some (.slice AG gs.length cg) ∧ w1.cell? ⟨w.heap.size, 3, none⟩ = some (.slice A3 rs.length c3)) := Lib.hid (fun w1 hgr => by
    have hb := (Below.refl ((w.alloc (.cells #[.int .i64 (N : Int), .slice A xs.length cp, .slice AG gs.length cg, .slice A3 rs.length c3] 85))).heap.size (w.alloc (.cells #[.int .i64 (N : Int), .slice A xs.length cp, .slice AG gs.length cg, .slice A3 rs.length c3] 85))).grown hgr (Nat.le_refl _) (fun k hk => by cases hk)
    exact ⟨B0.trans (hb.mono B0.size), cell_later hb m0, cell_later hb m1, cell_later hb m2, cell_later hb m3⟩)
  clear m0 m1 m2 m3 B0
  go_enter Try.func59, Try.ntmps59
  go_wp2_with (at_make; refine wpList_make_full _ rfl (.tmp 12) (.tmp 12) 25 rfl (w.heap.size + 1) 2 i0 (.int .i64 0) 1 Try.underlying25 hi hz0 hz1 .i64 .i64 (N : Int) (N : Int) N rfl rfl rfl rfl hbb hmx (by simp) ?_; intro w1 hown hgr; obtain ⟨be1, m0, m1, m2, m3⟩ := HM.out w1 hgr; clear hgr)
  have hsz : ((w.alloc (.cells #[.int .i64 (N : Int), .slice A xs.length cp, .slice AG gs.length cg, .slice A3 rs.length c3] 85))).heap.size = w.heap.size + 1 := by simp
  rw [hsz] at hown
  have HOwn : Hid (w1.ownsRow (w.heap.size + 1) 2 1 (.slice (some ⟨w.heap.size + 1, 0, none⟩) N N) N (vals (List.replicate N 0))) := Lib.hid (by
    have e : (madeCells (Value.int .i64 0).cells (N * 1)).toList = (List.replicate N (0 : Int)).map (Value.int .i64) := by
      rw [Nat.mul_one, List.map_replicate]
      exact toList_madeCells_one _ _
    rw [e] at hown
    exact hown)
  have HM := Lib.hid (And.intro m0 (And.intro m1 (And.intro m2 m3)))
  have lt1 : w.heap.size < w1.heap.size := World.block_lt_of_cell? _ _ m0
  clear hown hsz hbb hmx hi hz0 hz1 hz2 m0 m1 m2 m3
  go_loopw [18] (fun kk wo => ∃ (q : Nat) (d : List Int), q ≤ N + 1 ∧ kk = .int .i64 q ∧ d.length = N ∧ Bd (48 * q) d ∧ fitGo xs gs rs xs.length (N + 1) (List.replicate N 0) = fitGo xs gs rs xs.length (N + 1 - q) d ∧ Below (w.heap.size + 1) w1 wo ∧ wo.ownsRow (w.heap.size + 1) 2 1 (.slice (some ⟨w.heap.size + 1, 0, none⟩) N N) N (vals d)) (fun kk _ => N + 2 - (intOf kk).toNat)
  case atStart => exact ⟨0, List.replicate N 0, Nat.zero_le _, rfl, by simp, (Bd.zeros N).more (by omega), rfl, Below.refl _ _, HOwn.out⟩
  case round =>
    obtain ⟨q, d, hq, rfl, hd, hbd, hfit, hb, hown⟩ := hrel
    have HD := Lib.hid hd
    have HBd := Lib.hid hbd
    have HFit := Lib.hid hfit
    have HO := Lib.hid hown
    clear hd hbd hfit hown
    obtain ⟨wo, hwo⟩ : ∃ wo : World, wo = wr := ⟨_, rfl⟩
    subst hwo
    have m1 := (hb.cell (p := ⟨w.heap.size, 1, none⟩) (by simp)).trans HM.out.2.1
    by_cases hlt : q < N + 1
    · have hltb : decide ((q : Int) < (N : Int) + 1) = true := decide_eq_true (by omega)
      have hlti : (q : Int) < (N : Int) + 1 := by omega
      go_wp2
      go_loopw [5, 24] (fun mo ii wi => ∃ i : Nat, i ≤ xs.length ∧ ii = .int .i64 i ∧ mo = .bool (mvd xs gs rs i d) ∧ Below (w.heap.size + 1) w1 wi ∧ wi.ownsRow (w.heap.size + 1) 2 1 (.slice (some ⟨w.heap.size + 1, 0, none⟩) N N) N (vals (rnd xs gs rs i d))) (fun _ ii _ => xs.length - (intOf ii).toNat)
      case atStart => exact ⟨0, Nat.zero_le _, rfl, rfl, hb, HO.out⟩
      case round =>
        obtain ⟨i, hi, rfl, rfl, hbi, howni⟩ := hrel
        have m1 := (hbi.cell (p := ⟨w.heap.size, 1, none⟩) (by simp)).trans HM.out.2.1
        by_cases hil : i < xs.length
        · have m2 := (hbi.cell (p := ⟨w.heap.size, 2, none⟩) (by simp)).trans HM.out.2.2.1
          have m3 := (hbi.cell (p := ⟨w.heap.size, 3, none⟩) (by simp)).trans HM.out.2.2.2
          have hbw : Below w.heap.size w wr := be1.trans (hbi.mono (by omega))
          have hgw : w.heap.size + 1 < wr.heap.size := (World.ownsRow.lt howni _ rfl).2
          obtain ⟨D, hDe⟩ : ∃ D, rnd xs gs rs i d = D := ⟨_, rfl⟩
          obtain ⟨m, hMe⟩ : ∃ m, mvd xs gs rs i d = m := ⟨_, rfl⟩
          have hDl : D.length = N := by rw [← hDe]; exact (rnd_len _ _).trans HD.out
          obtain ⟨hE1, hE2⟩ := HE.out i hil
          have hne := HNE.out i hil
          obtain ⟨sA, sC, sN⟩ := rnd_step hDe hMe hne (by rw [hDl]; exact hE2)
          have hbD : Bd (48 * q + 2 * i) D := by rw [← hDe]; exact HBd.out.rnd HE.out (fun k hk => by have := HGd.out k hk; omega) HD.out i (by omega)
          obtain ⟨d1, d2⟩ := hbD (aF xs i)
          obtain ⟨d3, d4⟩ := hbD (aT xs i)
          obtain ⟨g1, g2⟩ := HGd.out i hil
          obtain ⟨⟨s, f, t, l, c, r, k⟩, hx⟩ : ∃ x, xs.getD i aNone = x := ⟨_, rfl⟩
          obtain ⟨b, o, hA, hab, c0, c1, c2, c3, c4, c5, c6⟩ := (J0.out.below hbw).cells7 hil hx
          cases hA
          obtain ⟨hf1, hf2⟩ := HFT.out i hil
          rw [hx] at hf1 hf2
          have hf1 : f = (aF xs i : Int) := hf1
          have hf2 : t = (aT xs i : Int) := hf2
          subst hf1 hf2
          obtain ⟨adg, hAG, hag, hcg⟩ := (HG.out.below hbw).atD (k := i) (by rw [LG.out]; exact hil)
          cases hAG
          obtain ⟨adr, hAR, har, hcr⟩ := (HB.out.below hbw).at_ (k := i) (by rw [LR.out]; exact hil)
          cases hAR
          have hri : rs[i]'(by rw [LR.out]; exact hil) = rs.getD i false := by simp [List.getD, show i < rs.length by rw [LR.out]; exact hil]
          rw [hri] at hcr
          rw [hDe] at howni
          have hcf : wr.cell? ⟨w.heap.size + 1, aF xs i, none⟩ = some (.int .i64 (D.getD (aF xs i) 0)) := by
            rw [World.ownsRow.cellAt howni _ (by omega), vals_get (by omega), getD_pt (by omega)]
          have hct : wr.cell? ⟨w.heap.size + 1, aT xs i, none⟩ = some (.int .i64 (D.getD (aT xs i) 0)) := by
            rw [World.ownsRow.cellAt howni _ (by omega), vals_get (by omega), getD_pt (by omega)]
          have hff : ∀ z, wr.frozen? ⟨w.heap.size + 1, z, none⟩ = false := fun z => World.ownsRow.frozenAt howni z
          have hgw0 : w.heap.size < wr.heap.size := by omega
          have hgb : b < wr.heap.size := by omega
          have hgg : adg.block < wr.heap.size := by omega
          have hgr : adr.block < wr.heap.size := by omega
          have HSA := Lib.hid sA
          have HSC := Lib.hid sC
          have HSN := Lib.hid sN
          have HOI := Lib.hid howni
          have HDL := Lib.hid hDl
          have hgl : (i : Int) < gs.length := by rw [LG.out]; omega
          have hrl : (i : Int) < rs.length := by rw [LR.out]; omega
          have hi0 : (0 : Int) ≤ (i : Int) := by omega
          have hi1 : (i : Int) < xs.length := by omega
          have hF0 : (0 : Int) ≤ (aF xs i : Int) := by omega
          have hF1 : (aF xs i : Int) < N := by omega
          have hT0 : (0 : Int) ≤ (aT xs i : Int) := by omega
          have hT1 : (aT xs i : Int) < N := by omega
          have hne' : ¬ aT xs i = aF xs i := fun e => hne e.symm
          have hbx : -2000000000 ≤ D.getD (aF xs i) 0 := by omega
          have hby : -2000000000 ≤ D.getD (aT xs i) 0 := by omega
          clear sA sC sN howni hDl hbD hx hE1 hE2 hri d1 d3
          rw [hMe]
          clear hDe hMe
          generalize D.getD (aF xs i) 0 = x at *
          generalize D.getD (aT xs i) 0 = y at *
          generalize gs.getD i 0 = g at *
          generalize rs.getD i false = rr at *
          generalize aF xs i = F at *
          generalize aT xs i = T at *
          have hcg1 : ((wr.alloc (.cells #[.string s, .int .i64 (F : Int), .int .i64 (T : Int), .int .i64 l, .int .i64 c, .int .i64 r, .int .i64 k] 92))).cell? (adg.add i) = some (.int .i64 g) := Lib.cell?_alloc_some _ hcg
          have hcr1 : ((wr.alloc (.cells #[.string s, .int .i64 (F : Int), .int .i64 (T : Int), .int .i64 l, .int .i64 c, .int .i64 r, .int .i64 k] 92))).cell? (adr.add i) = some (.bool rr) := Lib.cell?_alloc_some _ hcr
          have hcg2 : ∀ n v, ((((wr.alloc (.cells #[.string s, .int .i64 (F : Int), .int .i64 (T : Int), .int .i64 l, .int .i64 c, .int .i64 r, .int .i64 k] 92))).drewN n).setCell ⟨w.heap.size + 1, T, none⟩ v).cell? (adg.add i) = some (.int .i64 g) := fun n v => (World.cell?_setCell_other _ _ _ _ (fun e => by have := congrArg Addr.block e; rw [block_add] at this; simp at this; omega)).trans hcg1
          have hcr2 : ∀ n v, ((((wr.alloc (.cells #[.string s, .int .i64 (F : Int), .int .i64 (T : Int), .int .i64 l, .int .i64 c, .int .i64 r, .int .i64 k] 92))).drewN n).setCell ⟨w.heap.size + 1, T, none⟩ v).cell? (adr.add i) = some (.bool rr) := fun n v => (World.cell?_setCell_other _ _ _ _ (fun e => by have := congrArg Addr.block e; rw [block_add] at this; simp at this; omega)).trans hcr1
          clear hcg hcr
          by_cases hA : x + g < y
          · obtain ⟨e1, e2⟩ := HSA.out hA
            have E1 := Lib.hid e1
            have E2 := Lib.hid e2
            have hA2 : ¬ x + g - g < x := by omega
            clear e1 e2 HSA HSC HSN
            cases rr
            all_goals
              go_wp2
              go_quiet (fail)
              go_wp2
              go_quiet (fail)
              go_wp2
              go_roundw
              case rel =>
                refine ⟨i + 1, by omega, by go_num, by rw [E2.out], ?_⟩
                rw [E1.out]
                exact fit_drew (fit_store HOI.out hbi (Nat.le_refl _) rfl) _
              case measure => simp [intOf]; omega
          · have hN : rr = true ∨ ¬ y - g < x → rnd xs gs rs (i + 1) d = D ∧ mvd xs gs rs (i + 1) d = m := HSN.out hA
            have hC : rr = false → y - g < x → rnd xs gs rs (i + 1) d = D.set F (y - g) ∧ mvd xs gs rs (i + 1) d = true := HSC.out hA
            have HN := Lib.hid hN
            have HC := Lib.hid hC
            clear hN hC HSA HSC HSN
            cases rr
            · by_cases hC : y - g < x
              · obtain ⟨e1, e2⟩ := HC.out rfl hC
                have E1 := Lib.hid e1
                have E2 := Lib.hid e2
                clear e1 e2 HN HC
                go_wp2
                go_quiet (fail)
                go_wp2
                go_quiet (fail)
                go_wp2
                go_roundw
                case rel =>
                  refine ⟨i + 1, by omega, by go_num, by rw [E2.out], ?_⟩
                  rw [E1.out]
                  exact fit_store HOI.out hbi (Nat.le_refl _) rfl
                case measure => simp [intOf]; omega
              · obtain ⟨e1, e2⟩ := HN.out (.inr hC)
                have E1 := Lib.hid e1
                have E2 := Lib.hid e2
                clear e1 e2 HN HC
                go_wp2
                go_quiet (fail)
                go_wp2
                go_quiet (fail)
                go_wp2
                go_roundw
                case rel =>
                  refine ⟨i + 1, by omega, by go_num, by rw [E2.out], ?_⟩
                  rw [E1.out]
                  exact fit_keep HOI.out hbi (Nat.le_refl _) rfl
                case measure => simp [intOf]; omega
            · obtain ⟨e1, e2⟩ := HN.out (.inl rfl)
              have E1 := Lib.hid e1
              have E2 := Lib.hid e2
              clear e1 e2 HN HC
              go_wp2
              go_quiet (fail)
              go_wp2
              go_quiet (fail)
              go_wp2
              go_roundw
              case rel =>
                refine ⟨i + 1, by omega, by go_num, by rw [E2.out], ?_⟩
                rw [E1.out]
                exact fit_keep HOI.out hbi (Nat.le_refl _) rfl
              case measure => simp [intOf]; omega
        · obtain rfl : i = xs.length := by omega
          have HOI := Lib.hid howni
          clear howni
          cases hmv : mvd xs gs rs xs.length d
          · have HV : Hid (R = some (rnd xs gs rs xs.length d)) := Lib.hid (by rw [HR.out, HFit.out]; exact fitGo_stop hlt hmv)
            go_wp2
            go_ret2
            refine ⟨_, ret_vb (by rw [HV.out]; rfl), ?_, be1.trans (hbi.mono (by omega))⟩
            rw [HV.out]
            exact Own.of_row HOI.out ((rnd_len _ _).trans HD.out) (by omega)
          · have HV := Lib.hid (HFit.out.trans (fitGo_go hlt hmv))
            go_wp2
            go_roundw
            case rel => exact ⟨q + 1, rnd xs gs rs xs.length d, by omega, by go_num, (rnd_len _ _).trans HD.out, (HBd.out.rnd HE.out (fun k hk => by have := HGd.out k hk; omega) HD.out xs.length (Nat.le_refl _)).more (by omega), HV.out, hbi, HOI.out⟩
            case measure => simp [intOf]; omega
    · have HV : Hid (R = none) := Lib.hid (by rw [HR.out, HFit.out, show N + 1 - q = 0 by omega]; rfl)
      go_wp2
      go_ret2
      refine ⟨_, ret_vb (by rw [HV.out]; rfl), ?_, be1.trans (hb.mono (by omega))⟩
      rw [HV.out]
      exact Own.nil_ _ _
set_option maxRecDepth 100000 in
set_option maxHeartbeats 3200000 in
theorem l12Fit_any (bm om : Nat) (N : Nat) (A : Option Addr) (cp : Nat) (xs : List Aw) (A1 : Option Addr) (c1 : Nat) (ds : List Int) (A2 : Option Addr) (c2 : Nat) (ps : List Int) (A3 : Option Addr) (c3 : Nat) (rs : List Bool) (w : World) (hI : Recs encA 7 w.heap.size w A xs) (hm : mineB (N : Int) xs = true)
    (hI1 : Ints w.heap.size w A1 ds) (l1 : ds.length = xs.length) (hI2 : Ints w.heap.size w A2 ps) (l2 : ps.length = xs.length) (gs : List Int) (hgs : ∀ k, k < xs.length → gs.getD k 0 = ps.getD k 0 - ds.getD k 0) (hg : ∀ k, k < xs.length → -1000000 ≤ ds.getD k 0 ∧ ds.getD k 0 ≤ 1000000 ∧ -50000 ≤ ps.getD k 0 ∧ ps.getD k 0 ≤ 50000)
    (hR : Bools w.heap.size w A3 rs) (lr : rs.length = xs.length) (m0 : w.cell? ⟨bm, om, none⟩ = some (.int .i64 (N : Int))) (mm : w.cell? ⟨bm, om + 1, none⟩ = some (.slice A xs.length cp)) :
    Calls Try.prog 57 #[.pointer (some ⟨bm, om, none⟩), .slice A1 ds.length c1, .slice A2 ps.length c2, .slice A3 rs.length c3] w fun e w' => ∃ v, e = .returned (.tuple #[v, .bool (fitF xs gs rs (N : Int)).isSome]) ∧ Own w.heap.size w' v ((fitF xs gs rs (N : Int)).getD []) ∧ Below w.heap.size w w' := by
  obtain ⟨R, hRR⟩ : ∃ R, R = fitF xs gs rs (N : Int) := ⟨_, rfl⟩
  rw [← hRR]
  have HR : Hid (R = fitGo xs gs rs xs.length (N + 1) (List.replicate N 0)) := Lib.hid (by rw [hRR]; unfold fitF; rw [Int.toNat_natCast])
  clear hRR
  obtain ⟨⟨n1, n2⟩, nx, hb0⟩ := mineB_bd hm
  obtain ⟨hE, hft⟩ := mineB_ends hm
  rw [Int.toNat_natCast] at hE
  have HE := Lib.hid hE
  have HFT := Lib.hid hft
  have HNE := Lib.hid (fun k (hk : k < xs.length) => awOk_ne hm hk)
  have J1 := Lib.hid hI1
  have J2 := Lib.hid hI2
  have HGS := Lib.hid hgs
  have HGd := Lib.hid hg
  have HB := Lib.hid hR
  have J0 := Lib.hid hI
  have L1 := Lib.hid l1
  have L2 := Lib.hid l2
  have LR := Lib.hid lr
  have hbm : bm < w.heap.size := World.block_lt_of_cell? _ _ m0
  clear hI hm hI1 hI2 hgs hg hR lr l1 l2 hE hft hb0
  have hN1 : 1 ≤ N := by omega
  have hN2 : N ≤ 16 := by omega
  have hxn : xs.length ≤ 24 := by omega
  clear n1 n2 nx
  obtain ⟨i0, hi, hz0, hz1, hz2⟩ := info_parts infoI
  have hbb : i0.bytes * N ≤ 281474976710656 := by rw [hz2]; omega
  have hmx : N ≤ maxLen := le_max (by omega)
  have HM : Hid (∀ w1, w.grownBy w1 none → Below w.heap.size w w1) := Lib.hid (fun w1 hgr => (Below.refl w.heap.size w).grown hgr (Nat.le_refl _) (fun k hk => by cases hk))
  go_enter Try.func57, Try.ntmps57
  go_wp2_with (at_make; refine wpList_make_full _ rfl (.tmp 19) (.tmp 19) 25 rfl w.heap.size 2 i0 (.int .i64 0) 1 Try.underlying25 hi hz0 hz1 .i64 .i64 (N : Int) (N : Int) N rfl rfl rfl rfl hbb hmx (Nat.le_refl _) ?_; intro w1 hown hgr; have be1 := HM.out w1 hgr; clear hgr)
  have HOwn : Hid (w1.ownsRow w.heap.size 2 1 (.slice (some ⟨w.heap.size, 0, none⟩) N N) N (vals (List.replicate N 0))) := Lib.hid (by
    have e : (madeCells (Value.int .i64 0).cells (N * 1)).toList = (List.replicate N (0 : Int)).map (Value.int .i64) := by
      rw [Nat.mul_one, List.map_replicate]
      exact toList_madeCells_one _ _
    rw [e] at hown
    exact hown)
  have M0 := Lib.hid m0
  have M1 := Lib.hid mm
  clear hown hbb hmx hi hz0 hz1 hz2 m0 mm HM
  go_loopw [11] (fun kk wo => ∃ (q : Nat) (d : List Int), q ≤ N + 1 ∧ kk = .int .i64 q ∧ d.length = N ∧ Bd (48 * q) d ∧ fitGo xs gs rs xs.length (N + 1) (List.replicate N 0) = fitGo xs gs rs xs.length (N + 1 - q) d ∧ Below w.heap.size w wo ∧ wo.ownsRow w.heap.size 2 1 (.slice (some ⟨w.heap.size, 0, none⟩) N N) N (vals d)) (fun kk _ => N + 2 - (intOf kk).toNat)
  case atStart => exact ⟨0, List.replicate N 0, Nat.zero_le _, rfl, by simp, (Bd.zeros N).more (by omega), rfl, be1, HOwn.out⟩
  case round =>
    obtain ⟨q, d, hq, rfl, hd, hbd, hfit, hb, hown⟩ := hrel
    have HD := Lib.hid hd
    have HBd := Lib.hid hbd
    have HFit := Lib.hid hfit
    have HO := Lib.hid hown
    clear hd hbd hfit hown
    obtain ⟨wo, hwo⟩ : ∃ wo : World, wo = wr := ⟨_, rfl⟩
    subst hwo
    have m0 := cell_later hb M0.out
    have m1 := cell_later hb M1.out
    by_cases hlt : q < N + 1
    · have hlti : (q : Int) ≤ (N : Int) := by omega
      have hltb : decide ((q : Int) ≤ (N : Int)) = true := decide_eq_true hlti
      go_wp2
      go_loopw [12, 13] (fun mo ii wi => ∃ i : Nat, i ≤ xs.length ∧ ii = .int .i64 i ∧ mo = .bool (mvd xs gs rs i d) ∧ Below w.heap.size w wi ∧ wi.ownsRow w.heap.size 2 1 (.slice (some ⟨w.heap.size, 0, none⟩) N N) N (vals (rnd xs gs rs i d))) (fun _ ii _ => xs.length - (intOf ii).toNat)
      case atStart => exact ⟨0, Nat.zero_le _, rfl, rfl, hb, HO.out⟩
      case round =>
        obtain ⟨i, hi, rfl, rfl, hbw, howni⟩ := hrel
        have m0 := cell_later hbw M0.out
        have m1 := cell_later hbw M1.out
        by_cases hil : i < xs.length
        · have hgw : w.heap.size < wr.heap.size := (World.ownsRow.lt howni _ rfl).2
          obtain ⟨D, hDe⟩ : ∃ D, rnd xs gs rs i d = D := ⟨_, rfl⟩
          obtain ⟨m, hMe⟩ : ∃ m, mvd xs gs rs i d = m := ⟨_, rfl⟩
          have hDl : D.length = N := by rw [← hDe]; exact (rnd_len _ _).trans HD.out
          obtain ⟨hE1, hE2⟩ := HE.out i hil
          have hne := HNE.out i hil
          obtain ⟨sA, sC, sN⟩ := rnd_step hDe hMe hne (by rw [hDl]; exact hE2)
          have hbD : Bd (48 * q + 2 * i) D := by rw [← hDe]; exact HBd.out.rnd HE.out (fun k hk => by have := HGd.out k hk; have := HGS.out k hk; omega) HD.out i (by omega)
          obtain ⟨d1, d2⟩ := hbD (aF xs i)
          obtain ⟨d3, d4⟩ := hbD (aT xs i)
          obtain ⟨g1, g2, g3, g4⟩ := HGd.out i hil
          have hgi := HGS.out i hil
          obtain ⟨⟨s, f, t, l, c, r, k⟩, hx⟩ : ∃ x, xs.getD i aNone = x := ⟨_, rfl⟩
          obtain ⟨b, o, hA, hab, -, c1, c2, -⟩ := (J0.out.below hbw).cells7 hil hx
          cases hA
          obtain ⟨hf1, hf2⟩ := HFT.out i hil
          rw [hx] at hf1 hf2
          have hf1 : f = (aF xs i : Int) := hf1
          have hf2 : t = (aT xs i : Int) := hf2
          subst hf1 hf2
          obtain ⟨ad1, hA1, ha1, hc1⟩ := (J1.out.below hbw).atD (k := i) (by rw [L1.out]; exact hil)
          cases hA1
          obtain ⟨ad2, hA2, ha2, hc2⟩ := (J2.out.below hbw).atD (k := i) (by rw [L2.out]; exact hil)
          cases hA2
          obtain ⟨adr, hAR, har, hcr⟩ := (HB.out.below hbw).at_ (k := i) (by rw [LR.out]; exact hil)
          cases hAR
          have hri : rs[i]'(by rw [LR.out]; exact hil) = rs.getD i false := by simp [List.getD, show i < rs.length by rw [LR.out]; exact hil]
          rw [hri] at hcr
          rw [hDe] at howni
          have hcf : wr.cell? ⟨w.heap.size, aF xs i, none⟩ = some (.int .i64 (D.getD (aF xs i) 0)) := by
            rw [World.ownsRow.cellAt howni _ (by omega), vals_get (by omega), getD_pt (by omega)]
          have hct : wr.cell? ⟨w.heap.size, aT xs i, none⟩ = some (.int .i64 (D.getD (aT xs i) 0)) := by
            rw [World.ownsRow.cellAt howni _ (by omega), vals_get (by omega), getD_pt (by omega)]
          have hff : ∀ z, wr.frozen? ⟨w.heap.size, z, none⟩ = false := fun z => World.ownsRow.frozenAt howni z
          rw [hgi] at sA sC sN
          have HSA := Lib.hid sA
          have HSC := Lib.hid sC
          have HSN := Lib.hid sN
          have HOI := Lib.hid howni
          have h1l : (i : Int) < ds.length := by rw [L1.out]; omega
          have h2l : (i : Int) < ps.length := by rw [L2.out]; omega
          have hrl : (i : Int) < rs.length := by rw [LR.out]; omega
          have hi0 : (0 : Int) ≤ (i : Int) := by omega
          have hi1 : (i : Int) < xs.length := by omega
          have hF0 : (0 : Int) ≤ (aF xs i : Int) := by omega
          have hF1 : (aF xs i : Int) < N := by omega
          have hT0 : (0 : Int) ≤ (aT xs i : Int) := by omega
          have hT1 : (aT xs i : Int) < N := by omega
          have hne' : ¬ aT xs i = aF xs i := fun e => hne e.symm
          have hbx : -2000000000 ≤ D.getD (aF xs i) 0 := by omega
          have hby : -2000000000 ≤ D.getD (aT xs i) 0 := by omega
          clear sA sC sN howni hDl hbD hx hE1 hE2 hri d1 d3 hgi
          rw [hMe]
          clear hDe hMe
          generalize D.getD (aF xs i) 0 = x at *
          generalize D.getD (aT xs i) 0 = y at *
          generalize ds.getD i 0 = dd at *
          generalize ps.getD i 0 = pp at *
          generalize rs.getD i false = rr at *
          generalize aF xs i = F at *
          generalize aT xs i = T at *
          have k1 : ∀ n v z, ((wr.drewN n).setCell ⟨w.heap.size, z, none⟩ v).cell? ⟨b, o + i * 7 + 1, none⟩ = some (.int .i64 (F : Int)) := fun n v z => (World.cell?_setCell_other _ _ _ _ (fun e => by have := congrArg Addr.block e; simp at this; omega)).trans c1
          have k2 : ∀ n v z, ((wr.drewN n).setCell ⟨w.heap.size, z, none⟩ v).cell? ⟨b, o + i * 7 + 2, none⟩ = some (.int .i64 (T : Int)) := fun n v z => (World.cell?_setCell_other _ _ _ _ (fun e => by have := congrArg Addr.block e; simp at this; omega)).trans c2
          have k3 : ∀ n v z, ((wr.drewN n).setCell ⟨w.heap.size, z, none⟩ v).cell? (adr.add i) = some (.bool rr) := fun n v z => (World.cell?_setCell_other _ _ _ _ (fun e => by have := congrArg Addr.block e; rw [block_add] at this; simp at this; omega)).trans hcr
          by_cases hA : x + (pp - dd) < y
          · obtain ⟨e1, e2⟩ := HSA.out hA
            have E1 := Lib.hid e1
            have E2 := Lib.hid e2
            have hA2 : ¬ x + (pp - dd) - (pp - dd) < x := by omega
            clear e1 e2 HSA HSC HSN
            cases rr
            all_goals
              go_wp2
              go_quiet (fail)
              go_wp2
              go_quiet (fail)
              go_wp2
              go_region
              go_wp2
              go_quiet (fail)
              go_wp2
              go_roundw
              case rel =>
                refine ⟨i + 1, by omega, by go_num, by rw [E2.out], ?_⟩
                rw [E1.out]
                exact fit_drew (fit_set (fit_drew ⟨hbw, HOI.out⟩ _) (Nat.le_refl _) _ _) _
              case measure => simp [intOf]; omega
          · have hN : rr = true ∨ ¬ y - (pp - dd) < x → rnd xs gs rs (i + 1) d = D ∧ mvd xs gs rs (i + 1) d = m := HSN.out hA
            have hC : rr = false → y - (pp - dd) < x → rnd xs gs rs (i + 1) d = D.set F (y - (pp - dd)) ∧ mvd xs gs rs (i + 1) d = true := HSC.out hA
            have HN := Lib.hid hN
            have HC := Lib.hid hC
            clear hN hC HSA HSC HSN
            cases rr
            · by_cases hC : y - (pp - dd) < x
              · obtain ⟨e1, e2⟩ := HC.out rfl hC
                have E1 := Lib.hid e1
                have E2 := Lib.hid e2
                clear e1 e2 HN HC
                go_wp2
                go_quiet (fail)
                go_wp2
                go_quiet (fail)
                go_wp2
                go_quiet (fail)
                go_wp2
                go_region
                go_wp2
                go_roundw
                case rel =>
                  refine ⟨i + 1, by omega, by go_num, by rw [E2.out], ?_⟩
                  rw [E1.out]
                  exact fit_set (fit_drew ⟨hbw, HOI.out⟩ _) (Nat.le_refl _) _ _
                case measure => simp [intOf]; omega
              · obtain ⟨e1, e2⟩ := HN.out (.inr hC)
                have E1 := Lib.hid e1
                have E2 := Lib.hid e2
                clear e1 e2 HN HC
                go_wp2
                go_quiet (fail)
                go_wp2
                go_quiet (fail)
                go_wp2
                go_quiet (fail)
                go_wp2
                go_roundw
                case rel =>
                  refine ⟨i + 1, by omega, by go_num, by rw [E2.out], ?_⟩
                  rw [E1.out]
                  exact fit_drew ⟨hbw, HOI.out⟩ _
                case measure => simp [intOf]; omega
            · obtain ⟨e1, e2⟩ := HN.out (.inl rfl)
              have E1 := Lib.hid e1
              have E2 := Lib.hid e2
              clear e1 e2 HN HC
              go_wp2
              go_quiet (fail)
              go_wp2
              go_quiet (fail)
              go_wp2
              go_quiet (fail)
              go_wp2
              go_roundw
              case rel =>
                refine ⟨i + 1, by omega, by go_num, by rw [E2.out], ?_⟩
                rw [E1.out]
                exact fit_drew ⟨hbw, HOI.out⟩ _
              case measure => simp [intOf]; omega
        · obtain rfl : i = xs.length := by omega
          have HOI := Lib.hid howni
          clear howni
          cases hmv : mvd xs gs rs xs.length d
          · have HV : Hid (R = some (rnd xs gs rs xs.length d)) := Lib.hid (by rw [HR.out, HFit.out]; exact fitGo_stop hlt hmv)
            go_wp2
            go_ret2
            refine ⟨_, ret_vb (by rw [HV.out]; rfl), ?_, hbw⟩
            rw [HV.out]
            exact Own.of_row HOI.out ((rnd_len _ _).trans HD.out) (by omega)
          · have HV := Lib.hid (HFit.out.trans (fitGo_go hlt hmv))
            go_wp2
            go_roundw
            case rel => exact ⟨q + 1, rnd xs gs rs xs.length d, by omega, by go_num, (rnd_len _ _).trans HD.out, (HBd.out.rnd HE.out (fun k hk => by have := HGd.out k hk; have := HGS.out k hk; omega) HD.out xs.length (Nat.le_refl _)).more (by omega), HV.out, hbw, HOI.out⟩
            case measure => simp [intOf]; omega
    · have HV : Hid (R = none) := Lib.hid (by rw [HR.out, HFit.out, show N + 1 - q = 0 by omega]; rfl)
      go_wp2
      go_ret2
      refine ⟨_, ret_vb (by rw [HV.out]; rfl), ?_, hb⟩
      rw [HV.out]
      exact Own.nil_ _ _
end Go.Proofs.Ytlgagnbnjfneaaa
