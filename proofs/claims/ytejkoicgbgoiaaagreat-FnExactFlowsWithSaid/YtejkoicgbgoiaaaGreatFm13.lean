/- Proved here: the parts Flw, FlwI, FlwL of the row's proof, joined by a program. Conditions: as each part says. -/
import Derived.Test.YtejkoicgbgoiaaaGreatFm12
import Derived.Deep.RegionHeld3
/- Flows with states of doors: by the program and by the reference. Conditions: the facts on memory and on lengths that each theorem names. -/
namespace Go.Proofs.YtejkoicgbgoiaaaGreat
open Go.RowKit
open Pl
theorem withF_code {p : Pt} {ss : List Bool} (h : plantB p = true) (hs : ss.length = p.ds.length) (hc : (openF p.xs p.ds ss).2 ≠ 0) : withF p ss = ([], 0, (openF p.xs p.ds ss).2) := by
  unfold withF
  rw [if_pos h, if_pos hs, if_neg hc]
theorem withF_go {p : Pt} {ss : List Bool} (h : plantB p = true) (hs : ss.length = p.ds.length) (hc : (openF p.xs p.ds ss).2 = 0) : withF p ss = solveR (openF p.xs p.ds ss).1 p.dr p.fs (meshesF p.J.toNat p.xs) p.tol 100 (zeroL p.xs.length) := by
  unfold withF
  rw [if_pos h, if_pos hs, if_pos hc]
theorem madeZero {n : Nat} : (madeCells (Value.int .i64 0).cells (n * 1)).toList = vals (zeroL n) := by
  unfold vals zeroL
  rw [Nat.mul_one, List.map_replicate]
  exact toList_madeCells_one _ _
theorem open_net {J : Int} {N : Nat} {xs : List Aw} {ds : List Do} {ls : List (List Int)} {fs : List Fa} {dr : List Int} {tol : Int} {ss : List Bool} (h : plantB ⟨J, xs, ds, ls, fs, dr, tol⟩ = true) (hJ : J = (N : Int)) (hc : (openF xs ds ss).2 = 0) : NetOk N xs (openF xs ds ss).1 fs dr (zeroL xs.length) ∧ 0 ≤ tol ∧ tol ≤ 100000 := by
  obtain ⟨h1, h2, h3, h4, h5⟩ := plant_parts h
  dsimp only at *
  obtain ⟨hm, _⟩ := doors_ok h1
  have h5 := inB_iff.1 h5
  exact ⟨⟨by rw [← hJ]; exact hm, fans_ok h2 h3, openF_ok hc, lstN_iff.1 h4, zeroL_length _, fun i _ => by rw [zeroL_get]; omega⟩, h5.1, h5.2⟩
set_option maxRecDepth 100000 in
set_option maxHeartbeats 6400000 in
theorem l21Flows_any (b : Nat) (A1 A2 A4 A5 : Option Addr) (k1 k2 k4 k5 : Nat) (J : Int) (xs : List Aw) (ds : List Do) (ls : List (List Int)) (fs : List Fa) (dr : List Int) (tol : Int) (AB : Option Addr) (cb : Nat) (ss : List Bool) (w : World)
    (hl : PtLen ⟨J, xs, ds, ls, fs, dr, tol⟩) (i1 : Recs encA 7 w.heap.size w A1 xs) (i2 : Recs encDo 4 w.heap.size w A2 ds) (i4 : Fns w.heap.size w A4 fs) (i5 : Ints w.heap.size w A5 dr) (hS : Bools w.heap.size w AB ss)
    (p0 : w.cell? ⟨b, 0, none⟩ = some (.int .i64 J)) (p1 : w.cell? ⟨b, 1, none⟩ = some (.slice A1 xs.length k1)) (p2 : w.cell? ⟨b, 2, none⟩ = some (.slice A2 ds.length k2)) (p4 : w.cell? ⟨b, 4, none⟩ = some (.slice A4 fs.length k4)) (p5 : w.cell? ⟨b, 5, none⟩ = some (.slice A5 dr.length k5)) (p6 : w.cell? ⟨b, 6, none⟩ = some (.int .i64 tol))
    (hp : plantB ⟨J, xs, ds, ls, fs, dr, tol⟩ = true) (hss : ss.length = ds.length) :
    Calls Tryz.prog 52 #[.pointer (some ⟨b, 0, none⟩), .slice AB ss.length cb] w fun e w' => ∃ u, e = .returned (.tuple #[u, .int .i64 (withF ⟨J, xs, ds, ls, fs, dr, tol⟩ ss).2.1, .int .i64 (withF ⟨J, xs, ds, ls, fs, dr, tol⟩ ss).2.2]) ∧ Own w.heap.size w' u (withF ⟨J, xs, ds, ls, fs, dr, tol⟩ ss).1 ∧ Below w.heap.size w w' := by
  obtain ⟨h1, -, -, -, -⟩ := plant_parts hp
  dsimp only at *
  obtain ⟨hm, -⟩ := doors_ok h1
  obtain ⟨⟨n1, n2⟩, nx, -⟩ := mineB_bd hm
  have hxn : xs.length ≤ 24 := by omega
  obtain ⟨N, rfl⟩ : ∃ N : Nat, J = (N : Int) := ⟨J.toNat, by omega⟩
  obtain ⟨i0, hi, hz0, hz1, hz2⟩ := info_parts infoI
  have hbb : i0.bytes * xs.length ≤ 281474976710656 := by rw [hz2]; omega
  have hmx : xs.length ≤ maxLen := le_max (by omega)
  have CO := Lib.hid (fun (W : World) (hb : Below w.heap.size w W) => l10Resistances_any b 0 (N : Int) A1 k1 xs A2 k2 ds AB cb ss W ((i1.below hb).more hb.size) ((i2.below hb).more hb.size) ((hS.below hb).more hb.size) h1 hss (cell_later hb p1))
  have HNET := Lib.hid (fun hc => open_net (ss := ss) hp rfl hc)
  obtain ⟨R, hRR⟩ : ∃ R, R = withF ⟨(N : Int), xs, ds, ls, fs, dr, tol⟩ ss := ⟨_, rfl⟩
  rw [← hRR]
  have HC := Lib.hid (fun hc => hRR.trans (withF_code hp hss hc))
  have HG := Lib.hid (fun hc => hRR.trans (withF_go hp hss hc))
  dsimp only at HC HG
  rw [Int.toNat_natCast] at HG
  have JX := Lib.hid i1
  have JF := Lib.hid i4
  have JD := Lib.hid i5
  have P0 := Lib.hid p0
  have P1 := Lib.hid p1
  have P4 := Lib.hid p4
  have P5 := Lib.hid p5
  have P6 := Lib.hid p6
  have HMK := Lib.hid (And.intro hi (And.intro hz0 (And.intro hz1 (And.intro hbb hmx))))
  clear i1 i2 i4 i5 hS hp hm n1 n2 nx h1 hRR hl p0 p1 p4 p5 p6 hss hi hz0 hz1 hz2 hbb hmx
  generalize openF xs ds ss = S at *
  go_enter Tryz.func52, Tryz.ntmps52
  go_wp2_with fail
  go_region_held3 (fun w' => w'.cell? ⟨b, 2, none⟩ = some (.slice A2 ds.length k2))
    (first
      | go_keep
      | exact cell_later hbo1 p2)
    (first
      | (go_at_call 80; refine (CO.out _ (by first | exact (Below.refl _ _).drew | exact Below.refl _ _)).mono ?_; rintro e w1 ⟨u1, rfl, ho1, hb1⟩; have hbo1 : Below w.heap.size w w1 := (Below.refl w.heap.size w).drew.trans (hb1.mono (Nat.le_refl _))))
  obtain ⟨AT, ct, rfl, -, -⟩ := ho1.slice
  have HO1 := Lib.hid ho1
  clear ho1 hb1 CO p2
  by_cases hc : S.2 = 0
  rotate_left
  · have HG2 := Lib.hid (HC.out hc)
    have hcb : (S.2 != 0) = true := by simpa using hc
    obtain ⟨S1, S2⟩ := S
    dsimp only at *
    clear hc
    go_wp2_with fail
    go_ret3
    exact ⟨.slice none 0 0, ret_v3 (by rw [HG2.out]), by rw [HG2.out]; exact Own.nil_ _ _, hbo1⟩
  have HG2 := Lib.hid (HG.out hc)
  obtain ⟨hnet, t0, t1⟩ := HNET.out hc
  have HN := Lib.hid hnet
  obtain ⟨rs, S2⟩ := S
  dsimp only at *
  subst hc
  have hsz1 := hbo1.size
  have q1 := cell_later hbo1 P1.out
  clear HC HG HNET hnet
  obtain ⟨hi, hz0, hz1, hbb, hmx⟩ := HMK.out
  go_wp2_with (at_make; refine wpList_make_full _ rfl (.tmp 30) (.tmp 30) 25 rfl w.heap.size 2 i0 (.int .i64 0) 1 Tryz.underlying25 hi hz0 hz1 .i64 .i64 (xs.length : Int) (xs.length : Int) xs.length rfl rfl rfl rfl hbb hmx hsz1 ?_; intro w3 hown hgr)
  have hb13 : Below w1.heap.size w1 w3 := (Below.refl _ _).grown hgr (Nat.le_refl _) (fun k hk => by cases hk)
  have hbo3 := hbo1.trans (hb13.mono hsz1)
  rw [madeZero] at hown
  have HZ : Hid (Own w.heap.size w3 (.slice (some ⟨w1.heap.size, 0, none⟩) xs.length xs.length) (zeroL xs.length)) := Lib.hid (by unfold Own; rw [zeroL_length]; exact hown)
  have HO3 := Lib.hid (HO1.out.later hb13)
  clear hown hgr hbb hmx hi hz0 hz1 HO1 q1
  have CS := Lib.hid (fun (W : World) (hb : Below w3.heap.size w3 W) => by
    have hS := l07Solve_any b 0 N A1 k1 xs AT ct rs A4 k4 fs A5 k5 dr (some ⟨w1.heap.size, 0, none⟩) xs.length (zeroL xs.length) tol 100 W HN.out t0 t1 (by omega) (by omega)
      (((JX.out.below hbo3).more hbo3.size |>.below hb).more hb.size) ((HO3.out.later hb).ints) (((JF.out.below hbo3).more hbo3.size).later hb) (((JD.out.below hbo3).more hbo3.size |>.below hb).more hb.size) ((HZ.out.later hb).ints) (cell_later hb (cell_later hbo3 P0.out)) (cell_later hb (cell_later hbo3 P1.out))
    rw [zeroL_length] at hS
    exact hS)
  have q4 := cell_later hbo3 P4.out
  have q5 := cell_later hbo3 P5.out
  have q6 := cell_later hbo3 P6.out
  have hrr : ((100 : Int)).toNat = 100 := rfl
  rw [hrr, ← HG2.out] at CS
  go_wp2_with fail
  go_region_held3 (fun w' => w'.cell? ⟨b, 4, none⟩ = some (.slice A4 fs.length k4) ∧ w'.cell? ⟨b, 5, none⟩ = some (.slice A5 dr.length k5) ∧ w'.cell? ⟨b, 6, none⟩ = some (.int .i64 tol))
    (first
      | go_keep
      | exact ⟨cell_later hbo4 q4, cell_later hbo4 q5, cell_later hbo4 q6⟩)
    (first
      | (go_at_call 81; refine (CS.out _ (by first | exact (Below.refl _ _).drew | exact Below.refl _ _)).mono ?_; rintro e w4 ⟨u4, rfl, ho4, hb4⟩; have hbo4 : Below w3.heap.size w3 w4 := (Below.refl w3.heap.size w3).drew.trans (hb4.mono (Nat.le_refl _))))
  have HO4 := Lib.hid ho4
  clear ho4 hb4 CS q4 q5 q6
  go_wp2_with fail
  go_ret3
  exact ⟨u4, rfl, HO4.out.base (fun g hg => Nat.le_trans hbo3.size (World.ownsRow.lt HO4.out g hg).1), hbo3.trans (hbo4.mono hbo3.size)⟩
set_option maxRecDepth 100000 in
set_option maxHeartbeats 3200000 in
theorem FlowsWith_s (v : Value) (p : Pt) (AB : Option Addr) (cb : Nat) (ss : List Bool) (w : World) (hf : PtFits p) (hl : PtLen p) (hI : PlantIs w.heap.size w v p) (hS : Bools w.heap.size w AB ss) (_ : ss.length ≤ 1048576) :
    Calls Tryz.prog 24 #[v, .slice AB ss.length cb] w fun e w' => ∃ u, e = .returned (.tuple #[u, .int .i64 (withF p ss).2.1, .int .i64 (withF p ss).2.2]) ∧ Own w.heap.size w' u (withF p ss).1 ∧ Below w.heap.size w w' := by
  obtain ⟨A1, k1, A2, k2, A3, k3, A4, k4, A5, k5, rfl, i1, i2, i3, i4, i5⟩ := hI
  obtain ⟨J, xs, ds, ls, fs, dr, tol⟩ := p
  have hdl : ds.length ≤ 1048576 := hl.2.1
  dsimp only at *
  have be0 : Below w.heap.size w (w.alloc (.cells #[.int .i64 J, .slice A1 xs.length k1, .slice A2 ds.length k2, .slice A3 ls.length k3, .slice A4 fs.length k4, .slice A5 dr.length k5, .int .i64 tol] 57)) := by go_grown
  have HC := Lib.hid (l21Ok_any w.heap.size A1 A2 A3 A4 A5 k1 k2 k3 k4 k5 ⟨J, xs, ds, ls, fs, dr, tol⟩ w.heap.size (w.alloc (.cells #[.int .i64 J, .slice A1 xs.length k1, .slice A2 ds.length k2, .slice A3 ls.length k3, .slice A4 fs.length k4, .slice A5 dr.length k5, .int .i64 tol] 57)) hf hl (i1.below be0) (i2.below be0) (i3.below be0) (i4.below be0) (i5.below be0) (by go_simp) (by go_simp) (by go_simp) (by go_simp) (by go_simp) (by go_simp) (by go_simp))
  have HF := Lib.hid (fun (W : World) (hb : Below ((w.alloc (.cells #[.int .i64 J, .slice A1 xs.length k1, .slice A2 ds.length k2, .slice A3 ls.length k3, .slice A4 fs.length k4, .slice A5 dr.length k5, .int .i64 tol] 57))).heap.size (w.alloc (.cells #[.int .i64 J, .slice A1 xs.length k1, .slice A2 ds.length k2, .slice A3 ls.length k3, .slice A4 fs.length k4, .slice A5 dr.length k5, .int .i64 tol] 57)) W) (hp : plantB ⟨J, xs, ds, ls, fs, dr, tol⟩ = true) (hss : ss.length = ds.length) =>
    l21Flows_any w.heap.size A1 A2 A4 A5 k1 k2 k4 k5 J xs ds ls fs dr tol AB cb ss W hl (((i1.below be0).more be0.size |>.below hb).more hb.size) (((i2.below be0).more be0.size |>.below hb).more hb.size) (((i4.below be0).more be0.size).later hb) (((i5.below be0).more be0.size |>.below hb).more hb.size) (((hS.below be0).more be0.size |>.below hb).more hb.size)
      (cell_later hb (by go_simp)) (cell_later hb (by go_simp)) (cell_later hb (by go_simp)) (cell_later hb (by go_simp)) (cell_later hb (by go_simp)) (cell_later hb (by go_simp)) hp hss)
  have p2 : ((w.alloc (.cells #[.int .i64 J, .slice A1 xs.length k1, .slice A2 ds.length k2, .slice A3 ls.length k3, .slice A4 fs.length k4, .slice A5 dr.length k5, .int .i64 tol] 57))).cell? ⟨w.heap.size, 2, none⟩ = some (.slice A2 ds.length k2) := by go_simp
  obtain ⟨R, hRR⟩ : ∃ R, R = withF ⟨J, xs, ds, ls, fs, dr, tol⟩ ss := ⟨_, rfl⟩
  rw [← hRR]
  rw [← hRR] at HF
  have HR : Hid (R = if plantB ⟨J, xs, ds, ls, fs, dr, tol⟩ = true then (if ss.length = ds.length then (if (openF xs ds ss).2 = 0 then solveR (openF xs ds ss).1 dr fs (meshesF J.toNat xs) tol 100 (zeroL xs.length) else ([], 0, (openF xs ds ss).2)) else ([], 0, 7)) else ([], 0, 1)) := Lib.hid hRR
  clear i1 i2 i3 i4 i5 hf hl hS hRR
  go_enter Tryz.func24, Tryz.ntmps24
  go_wp2_with fail
  generalize (w.alloc (.cells #[.int .i64 J, .slice A1 xs.length k1, .slice A2 ds.length k2, .slice A3 ls.length k3, .slice A4 fs.length k4, .slice A5 dr.length k5, .int .i64 tol] 57)) = w0 at *
  refine HC.out.mono ?_
  rintro e w1 ⟨rfl, n, rfl⟩
  have hb1 : Below w0.heap.size w0 (w0.drewN n) := below_drewN (Below.refl _ _) n
  have be1 := below_drewN be0 n
  have p21 := cell_later hb1 p2
  generalize w0.drewN n = w1 at *
  clear HC p2
  cases hp : plantB ⟨J, xs, ds, ls, fs, dr, tol⟩
  · have HG := Lib.hid (HR.out.trans (if_neg (by rw [hp]; exact Bool.false_ne_true)))
    go_wp2_with fail
    go_ret3
    exact ⟨.slice none 0 0, ret_v3 (by rw [HG.out]), by rw [HG.out]; exact Own.nil_ _ _, be1⟩
  have HG := HR.out.trans (if_pos hp)
  clear HR
  by_cases hss : ss.length = ds.length
  rotate_left
  · have HG2 := Lib.hid (HG.trans (if_neg hss))
    have hsi : ¬ (ss.length : Int) = (ds.length : Int) := by omega
    clear HG hss
    go_wp2_with fail
    go_ret3
    exact ⟨.slice none 0 0, ret_v3 (by rw [HG2.out]), by rw [HG2.out]; exact Own.nil_ _ _, be1⟩
  have CF := Lib.hid (HF.out w1 hb1 hp hss)
  have hsi : (ss.length : Int) = (ds.length : Int) := by omega
  clear HF HG hss hb1
  go_wp2_with fail
  refine CF.out.mono ?_
  rintro e w2 ⟨u, rfl, ho, hb2⟩
  have HO := Lib.hid ho
  clear ho CF
  go_wp2_with fail
  go_ret3
  exact ⟨u, rfl, HO.out.base (fun g hg => Nat.le_trans be1.size (World.ownsRow.lt HO.out g hg).1), be1.trans (hb2.mono be1.size)⟩
end Go.Proofs.YtejkoicgbgoiaaaGreat

/- Flows with states of doors, by the program. Conditions: the facts on memory and on lengths that each theorem names. -/
namespace Go.Proofs.YtejkoicgbgoiaaaGreat
open Go.RowKit
open Pl
set_option maxRecDepth 100000 in
set_option maxHeartbeats 6400000 in
theorem flowsWith_any (A1 A2 A3 A4 A5 : Option Addr) (k1 k2 k3 k4 k5 : Nat) (J : Int) (xs : List Aw) (ds : List Do) (ls : List (List Int)) (fs : List Fa) (dr : List Int) (tol : Int) (AB : Option Addr) (cb : Nat) (ss : List Bool) (w : World)
    (hf : PtFits ⟨J, xs, ds, ls, fs, dr, tol⟩) (hl : PtLen ⟨J, xs, ds, ls, fs, dr, tol⟩) (hcap : ds.length ≤ k2) (i1 : Recs encA 7 w.heap.size w A1 xs) (i2 : Recs encDo 4 w.heap.size w A2 ds) (i4 : Fns w.heap.size w A4 fs) (i5 : Ints w.heap.size w A5 dr) (hS : Bools w.heap.size w AB ss)
    (hp : plantB ⟨J, xs, ds, ls, fs, dr, tol⟩ = true) (hss : ss.length = ds.length) :
    Calls Tryz.prog 56 #[.agg #[.int .i64 J, .slice A1 xs.length k1, .slice A2 ds.length k2, .slice A3 ls.length k3, .slice A4 fs.length k4, .slice A5 dr.length k5, .int .i64 tol], .slice AB ss.length cb] w fun e w' => ∃ u, e = .returned (.tuple #[u, .int .i64 (withF ⟨J, xs, ds, ls, fs, dr, tol⟩ ss).2.1, .int .i64 (withF ⟨J, xs, ds, ls, fs, dr, tol⟩ ss).2.2]) ∧ Own w.heap.size w' u (withF ⟨J, xs, ds, ls, fs, dr, tol⟩ ss).1 ∧ Below w.heap.size w w' := by
  obtain ⟨h1, -, -, -, -⟩ := plant_parts hp
  obtain ⟨l1, l2, l3, l3', l4, l4', l5⟩ := hl
  obtain ⟨f1, f1', f2, f2', f3, f3', f4', f4, f5', f5, -, -⟩ := hf
  dsimp only at *
  obtain ⟨hm, -⟩ := doors_ok h1
  obtain ⟨⟨n1, n2⟩, nx, -⟩ := mineB_bd hm
  have hxn : xs.length ≤ 24 := by omega
  obtain ⟨i0, hi, hz0, hz1, hz2⟩ := info_parts infoI
  have hbb : i0.bytes * xs.length ≤ 281474976710656 := by rw [hz2]; omega
  have hmx : xs.length ≤ maxLen := le_max (by omega)
  have be0 : Below w.heap.size w (w.alloc (.cells #[.int .i64 J, .slice A1 xs.length k1, .slice A2 ds.length k2, .slice A3 ls.length k3, .slice A4 fs.length k4, .slice A5 dr.length k5, .int .i64 tol] 57)) := by go_grown
  have CO := Lib.hid (OpenDoors_any J A1 k1 xs A2 k2 ds AB cb ss (w.alloc (.cells #[.int .i64 J, .slice A1 xs.length k1, .slice A2 ds.length k2, .slice A3 ls.length k3, .slice A4 fs.length k4, .slice A5 dr.length k5, .int .i64 tol] 57)) ((i1.below be0).more be0.size) ((i2.below be0).more be0.size) ((hS.below be0).more be0.size) f1 f2 hcap h1 hss)
  obtain ⟨R, hRR⟩ : ∃ R, R = withF ⟨J, xs, ds, ls, fs, dr, tol⟩ ss := ⟨_, rfl⟩
  rw [← hRR]
  have HC := Lib.hid (fun hc => hRR.trans (withF_code hp hss hc))
  have HG := Lib.hid (fun hc => (hRR.trans (withF_go hp hss hc)).trans (solve_open hp hc).symm)
  have HOK := Lib.hid (fun hc => openF_ok (xs := xs) (ds := ds) (ss := ss) hc)
  dsimp only at HC HG
  have hbx : Bx (w.alloc (.cells #[.int .i64 J, .slice A1 xs.length k1, .slice A2 ds.length k2, .slice A3 ls.length k3, .slice A4 fs.length k4, .slice A5 dr.length k5, .int .i64 tol] 57)) w.heap.size [.int .i64 J, .slice A1 xs.length k1, .slice A2 ds.length k2, .slice A3 ls.length k3, .slice A4 fs.length k4, .slice A5 dr.length k5, .int .i64 tol] := bx7_of (by go_simp) (by go_simp) (by go_simp) (by go_simp) (by go_simp) (by go_simp) (by go_simp) (fun j => by go_simp)
  have szg0 : w.heap.size < ((w.alloc (.cells #[.int .i64 J, .slice A1 xs.length k1, .slice A2 ds.length k2, .slice A3 ls.length k3, .slice A4 fs.length k4, .slice A5 dr.length k5, .int .i64 tol] 57))).heap.size := by simp
  have HB0 := Lib.hid hbx
  have JX := Lib.hid i1
  have JF := Lib.hid i4
  have JD := Lib.hid i5
  have FX := Lib.hid f1
  have FF := Lib.hid f4
  have FD := Lib.hid f5
  have LF := Lib.hid l4'
  have HMK := Lib.hid (And.intro hi (And.intro hz0 (And.intro hz1 (And.intro hbb hmx))))
  clear i1 i2 i4 i5 hS hp hm n1 n2 nx h1 hRR hbx hss hi hz0 hz1 hz2 hbb hmx f1 f1' f2 f2' f3 f3' f4' f4 f5' f5 l3 l3' l4'
  generalize openF xs ds ss = S at *
  go_enter Tryz.func56, Tryz.ntmps56
  go_wp2_with fail
  generalize (w.alloc (.cells #[.int .i64 J, .slice A1 xs.length k1, .slice A2 ds.length k2, .slice A3 ls.length k3, .slice A4 fs.length k4, .slice A5 dr.length k5, .int .i64 tol] 57)) = w0 at *
  refine CO.out.mono ?_
  rintro e w1 ⟨u1, rfl, ho1, hb1⟩
  obtain ⟨AT, ct, rfl, -, -⟩ := ho1.slice
  have HO1 := Lib.hid ho1
  have be1 := be0.trans (hb1.mono be0.size)
  have HB1 := Lib.hid (HB0.out.below hb1 szg0)
  have szg1 : w.heap.size < w1.heap.size := Nat.lt_of_lt_of_le szg0 hb1.size
  clear ho1 hb1 CO HB0
  by_cases hc : S.2 = 0
  rotate_left
  · have HG2 := Lib.hid (HC.out hc)
    have hcb : (S.2 != 0) = true := by simpa using hc
    obtain ⟨S1, S2⟩ := S
    dsimp only at *
    clear hc
    go_wp2_with fail
    go_ret3
    exact ⟨.slice none 0 0, ret_v3 (by rw [HG2.out]), by rw [HG2.out]; exact Own.nil_ _ _, be1⟩
  have HG2 := Lib.hid (HG.out hc)
  have HOK2 := Lib.hid (HOK.out hc)
  obtain ⟨rs, S2⟩ := S
  dsimp only at *
  subst hc
  have hrl : rs.length = xs.length := HOK2.out.1
  have CS := Lib.hid (fun (W : World) (AZ : Option Addr) (cz : Nat) (hb : Below w1.heap.size w1 W) (hz : Ints W.heap.size W AZ (zeroL xs.length)) => by
    have hS := SolveFlows_i J A1 k1 xs AT ct rs A4 k4 fs A5 k5 dr AZ cz (zeroL xs.length) tol 100 W (by omega) (by omega) (by omega) (by omega) (by rw [zeroL_length]; omega) FX.out (fits_of HOK2.out.1 (fun i hi => by have := HOK2.out.2 i hi; omega)) FF.out LF.out FD.out (fits_of (zeroL_length _) (fun i _ => by rw [zeroL_get]; omega))
      (((JX.out.below be1).more be1.size |>.below hb).more hb.size) ((HO1.out.later hb).ints) (((JF.out.below be1).more be1.size).later hb) (((JD.out.below be1).more be1.size |>.below hb).more hb.size) hz
    rw [zeroL_length, ← HG2.out] at hS
    exact hS)
  obtain ⟨hi, hz0, hz1, hbb, hmx⟩ := HMK.out
  obtain ⟨wm, hrun, hown, hgr⟩ := run_make_full (P := Tryz.prog) w1.drew w.heap.size 25 2 i0 (.int .i64 0) 1 Tryz.underlying25 hi hz0 hz1 .i64 .i64 xs.length hbb hmx (by have := szg1; simp; omega)
  rw [madeZero] at hown
  have hbm : Below w1.heap.size w1 wm := ((Below.refl w1.heap.size w1).drew).grown hgr (Nat.le_refl _) (fun k hk => by cases hk)
  have HZ : Hid (Own w.heap.size wm (.slice (some ⟨w1.drew.heap.size, 0, none⟩) xs.length xs.length) (zeroL xs.length)) := Lib.hid (by unfold Own; rw [zeroL_length]; exact hown)
  clear hown hgr
  obtain ⟨⟨p0, p1, p2, p3, p4, p5, p6⟩, -⟩ := bx7 HB1.out
  clear HC HG HOK HB1 p2 p3 hbb hmx hi hz0 hz1 hrl l1 l2 l4 l5 hcap hxn szg0 szg1
  go_wp2_with fail
  go_region_held3 (fun w' => w'.cell? ⟨w.heap.size, 0, none⟩ = some (.int .i64 J) ∧ w'.cell? ⟨w.heap.size, 1, none⟩ = some (.slice A1 xs.length k1) ∧ w'.cell? ⟨w.heap.size, 4, none⟩ = some (.slice A4 fs.length k4) ∧ w'.cell? ⟨w.heap.size, 5, none⟩ = some (.slice A5 dr.length k5) ∧ w'.cell? ⟨w.heap.size, 6, none⟩ = some (.int .i64 tol))
    (first
      | go_keep
      | exact ⟨cell_later hbo4 p0, cell_later hbo4 p1, cell_later hbo4 p4, cell_later hbo4 p5, cell_later hbo4 p6⟩
      | exact ⟨cell_later hbm p0, cell_later hbm p1, cell_later hbm p4, cell_later hbm p5, cell_later hbm p6⟩)
    (first
      | (go_at_call 64; refine (CS.out _ _ _ hbm HZ.out.ints).mono ?_; rintro e w4 ⟨u4, rfl, ho4, hb4⟩; have hbo4 : Below w1.heap.size w1 w4 := hbm.trans (hb4.mono hbm.size)))
  have HO4 := Lib.hid ho4
  clear ho4 CS
  go_wp2_with fail
  go_ret3
  exact ⟨u4, rfl, HO4.out.base (fun g hg => Nat.le_trans be1.size (Nat.le_trans hbm.size (World.ownsRow.lt HO4.out g hg).1)), be1.trans (hbo4.mono be1.size)⟩
set_option maxRecDepth 100000 in
set_option maxHeartbeats 3200000 in
theorem FlowsWith_i (v : Value) (p : Pt) (AB : Option Addr) (cb : Nat) (ss : List Bool) (w : World) (hf : PtFits p) (hl : PtLen p) (hcap : CapOk v) (hI : PlantIs w.heap.size w v p) (hS : Bools w.heap.size w AB ss) (_ : ss.length ≤ 1048576) :
    Calls Tryz.prog 27 #[v, .slice AB ss.length cb] w fun e w' => ∃ u, e = .returned (.tuple #[u, .int .i64 (withF p ss).2.1, .int .i64 (withF p ss).2.2]) ∧ Own w.heap.size w' u (withF p ss).1 ∧ Below w.heap.size w w' := by
  have HI := Lib.hid hI
  obtain ⟨A1, k1, A2, k2, A3, k3, A4, k4, A5, k5, rfl, i1, i2, i3, i4, i5⟩ := hI
  obtain ⟨J, xs, ds, ls, fs, dr, tol⟩ := p
  have hdl : ds.length ≤ 1048576 := hl.2.1
  have hc2 : ds.length ≤ k2 := hcap _ _ _ _ _ _ _ _ _ rfl
  dsimp only at *
  have be0 : Below w.heap.size w (w.alloc (.cells #[.int .i64 J, .slice A1 xs.length k1, .slice A2 ds.length k2, .slice A3 ls.length k3, .slice A4 fs.length k4, .slice A5 dr.length k5, .int .i64 tol] 57)) := by go_grown
  have HC := Lib.hid (ValidPlant_i _ ⟨J, xs, ds, ls, fs, dr, tol⟩ (w.alloc (.cells #[.int .i64 J, .slice A1 xs.length k1, .slice A2 ds.length k2, .slice A3 ls.length k3, .slice A4 fs.length k4, .slice A5 dr.length k5, .int .i64 tol] 57)) hf hl hcap (HI.out.later be0))
  have HF := Lib.hid (fun (W : World) (hb : Below w.heap.size w W) (hp : plantB ⟨J, xs, ds, ls, fs, dr, tol⟩ = true) (hss : ss.length = ds.length) =>
    flowsWith_any A1 A2 A3 A4 A5 k1 k2 k3 k4 k5 J xs ds ls fs dr tol AB cb ss W hf hl hc2 ((i1.below hb).more hb.size) ((i2.below hb).more hb.size) (i4.later hb) ((i5.below hb).more hb.size) ((hS.below hb).more hb.size) hp hss)
  have hbx : Bx (w.alloc (.cells #[.int .i64 J, .slice A1 xs.length k1, .slice A2 ds.length k2, .slice A3 ls.length k3, .slice A4 fs.length k4, .slice A5 dr.length k5, .int .i64 tol] 57)) w.heap.size [.int .i64 J, .slice A1 xs.length k1, .slice A2 ds.length k2, .slice A3 ls.length k3, .slice A4 fs.length k4, .slice A5 dr.length k5, .int .i64 tol] := bx7_of (by go_simp) (by go_simp) (by go_simp) (by go_simp) (by go_simp) (by go_simp) (by go_simp) (fun j => by go_simp)
  have szg0 : w.heap.size < ((w.alloc (.cells #[.int .i64 J, .slice A1 xs.length k1, .slice A2 ds.length k2, .slice A3 ls.length k3, .slice A4 fs.length k4, .slice A5 dr.length k5, .int .i64 tol] 57))).heap.size := by simp
  have HB0 := Lib.hid hbx
  obtain ⟨R, hRR⟩ : ∃ R, R = withF ⟨J, xs, ds, ls, fs, dr, tol⟩ ss := ⟨_, rfl⟩
  rw [← hRR]
  rw [← hRR] at HF
  have HR : Hid (R = if plantB ⟨J, xs, ds, ls, fs, dr, tol⟩ = true then (if ss.length = ds.length then (if (openF xs ds ss).2 = 0 then solveR (openF xs ds ss).1 dr fs (meshesF J.toNat xs) tol 100 (zeroL xs.length) else ([], 0, (openF xs ds ss).2)) else ([], 0, 7)) else ([], 0, 1)) := Lib.hid hRR
  clear i1 i2 i3 i4 i5 hf hl hS hRR hcap hbx HI
  go_enter Tryz.func27, Tryz.ntmps27
  go_wp2_with fail
  generalize (w.alloc (.cells #[.int .i64 J, .slice A1 xs.length k1, .slice A2 ds.length k2, .slice A3 ls.length k3, .slice A4 fs.length k4, .slice A5 dr.length k5, .int .i64 tol] 57)) = w0 at *
  refine HC.out.mono ?_
  rintro e w1 ⟨rfl, hb1⟩
  have be1 := be0.trans (hb1.mono be0.size)
  have HB1 := Lib.hid (HB0.out.below hb1 szg0)
  clear HC HB0 hb1
  obtain ⟨⟨p0, p1, p2, p3, p4, p5, p6⟩, -⟩ := bx7 HB1.out
  cases hp : plantB ⟨J, xs, ds, ls, fs, dr, tol⟩
  · have HG := Lib.hid (HR.out.trans (if_neg (by rw [hp]; exact Bool.false_ne_true)))
    go_wp2_with fail
    go_ret3
    exact ⟨.slice none 0 0, ret_v3 (by rw [HG.out]), by rw [HG.out]; exact Own.nil_ _ _, be1⟩
  have HG := HR.out.trans (if_pos hp)
  clear HR
  by_cases hss : ss.length = ds.length
  rotate_left
  · have HG2 := Lib.hid (HG.trans (if_neg hss))
    have hsi : ¬ (ss.length : Int) = (ds.length : Int) := by omega
    clear HG hss
    go_wp2_with fail
    go_ret3
    exact ⟨.slice none 0 0, ret_v3 (by rw [HG2.out]), by rw [HG2.out]; exact Own.nil_ _ _, be1⟩
  have CF := Lib.hid (HF.out w1 be1 hp hss)
  have hsi : (ss.length : Int) = (ds.length : Int) := by omega
  clear HF HG hss
  go_wp2_with fail
  clear p0 p1 p2 p3 p4 p5 p6
  refine CF.out.mono ?_
  rintro e w2 ⟨u, rfl, ho, hb2⟩
  have HO := Lib.hid ho
  clear ho CF
  go_wp2_with fail
  go_ret3
  exact ⟨u, rfl, HO.out.base (fun g hg => Nat.le_trans be1.size (World.ownsRow.lt HO.out g hg).1), be1.trans (hb2.mono be1.size)⟩
end Go.Proofs.YtejkoicgbgoiaaaGreat

/- The law FnExactFlowsWith: its walk. Conditions: the facts on memory and on lengths that the theorem names. Printed by gen_flwl.py. -/
namespace Go.Proofs.YtejkoicgbgoiaaaGreat
open Go.RowKit
open Pl
set_option maxRecDepth 100000 in
set_option maxHeartbeats 6400000 in
theorem fnExactFlowsWith_walk {w : World} (v : Value) (p : Pt) (hf : PtFits p) (hI : PlantIs w.heap.size w v p) (AB : Option Addr) (cb : Nat) (ss : List Bool) (IB : Bools w.heap.size w AB ss) (_ : ss.length ≤ maxLen) :
    Calls Tryz.prog 5 #[v, .slice AB ss.length cb] w fun e w' => e = .returned (.bool true) ∧ Below w.heap.size w w' := by
  have HI := Lib.hid hI
  obtain ⟨A1, k1, A2, k2, A3, k3, A4, k4, A5, k5, rfl, -, -, -, -, -⟩ := hI
  obtain ⟨J, xs, ds, ls, fs, dr, tol⟩ := p
  dsimp only at *
  have HF := Lib.hid hf
  have HIB := Lib.hid IB
  clear hf IB
  by_cases hnB : (ss.length : Int) ≤ 1048576
  rotate_left
  · go_enter Tryz.func5, Tryz.ntmps5
    go_wp2
    go_ret
    exact ⟨rfl, by go_grown⟩
  have hor := szP_or ⟨J, xs, ds, ls, fs, dr, tol⟩
  have hcp := cntP_le ⟨J, xs, ds, ls, fs, dr, tol⟩
  have hcn := cntP_nonneg ⟨J, xs, ds, ls, fs, dr, tol⟩
  have be0 : Below w.heap.size w (w.alloc (.cells #[.int .i64 J, .slice A1 xs.length k1, .slice A2 ds.length k2, .slice A3 ls.length k3, .slice A4 fs.length k4, .slice A5 dr.length k5, .int .i64 tol] 50)) := by go_grown
  have HS := Lib.hid (fun W (hb : Below w.heap.size w W) => szPlant_any _ ⟨J, xs, ds, ls, fs, dr, tol⟩ W HF.out (HI.out.later hb))
  have hbx : Bx (w.alloc (.cells #[.int .i64 J, .slice A1 xs.length k1, .slice A2 ds.length k2, .slice A3 ls.length k3, .slice A4 fs.length k4, .slice A5 dr.length k5, .int .i64 tol] 50)) w.heap.size [.int .i64 J, .slice A1 xs.length k1, .slice A2 ds.length k2, .slice A3 ls.length k3, .slice A4 fs.length k4, .slice A5 dr.length k5, .int .i64 tol] := bx7_of (by go_simp) (by go_simp) (by go_simp) (by go_simp) (by go_simp) (by go_simp) (by go_simp) (fun j => by go_simp)
  have szg0 : w.heap.size < ((w.alloc (.cells #[.int .i64 J, .slice A1 xs.length k1, .slice A2 ds.length k2, .slice A3 ls.length k3, .slice A4 fs.length k4, .slice A5 dr.length k5, .int .i64 tol] 50))).heap.size := by simp
  have HB0 := Lib.hid hbx
  clear hbx
  have hRl := withF_le ⟨J, xs, ds, ls, fs, dr, tol⟩ ss
  generalize szP ⟨J, xs, ds, ls, fs, dr, tol⟩ = q at *
  obtain ⟨R, hRR⟩ : ∃ R, R = withF ⟨J, xs, ds, ls, fs, dr, tol⟩ ss := ⟨_, rfl⟩
  rw [← hRR] at hRl
  have HRR := Lib.hid hRR
  clear hRR
  go_enter Tryz.func5, Tryz.ntmps5
  go_wp2_with fail
  generalize (w.alloc (.cells #[.int .i64 J, .slice A1 xs.length k1, .slice A2 ds.length k2, .slice A3 ls.length k3, .slice A4 fs.length k4, .slice A5 dr.length k5, .int .i64 tol] 50)) = w0 at *
  refine (HS.out _ be0).mono ?_
  rintro e w1 ⟨rfl, hb1⟩
  have be1 := be0.trans (hb1.mono be0.size)
  have szg1 : w.heap.size < w1.heap.size := Nat.lt_of_lt_of_le szg0 hb1.size
  have HB1 := Lib.hid (HB0.out.below hb1 szg0)
  clear hb1 HB0
  rcases hor with hq | hl
  · go_wp2_with fail
    go_ret
    exact ⟨rfl, be1⟩
  by_cases hq : q < 0
  · go_wp2_with fail
    go_ret
    exact ⟨rfl, be1⟩
  have hcq := hcp (by omega)
  have HL := Lib.hid hl
  have hxl : xs.length ≤ 1048576 := hl.1
  (try dsimp only at hRl)
  have hR : R.1.length ≤ 1048576 := by omega
  clear hl hcp hRl
  obtain ⟨⟨p0, p1, p2, p3, p4, p5, p6⟩, -⟩ := bx7 HB1.out
  go_wp2_with fail
  clear p0 p1 p2 p3 p4 p5 p6
  refine (toPlant_any _ ⟨J, xs, ds, ls, fs, dr, tol⟩ _ HL.out (HI.out.later be1)).mono ?_
  rintro e w2 ⟨v2, rfl, P2, C2, hb2⟩
  have sz2 : w1.heap.size ≤ w2.heap.size := hb2.size
  have be2 := be1.trans (hb2.mono be1.size)
  have HB2 := Lib.hid (HB1.out.below hb2 (by omega))
  clear HB1
  clear hb2
  have HCs0 := Lib.hid C2
  have rs0_2 := Lib.hid (P2)
  clear P2 C2
  go_wp2_with fail
  refine (toBoolS_any AB cb ss w.heap.size _ (by omega) (HIB.out.below be2) be2.size).mono ?_
  rintro e w3 ⟨rfl, ho3, hb3⟩
  have sz3 : w2.heap.size ≤ w3.heap.size := hb3.size
  have be3 := be2.trans (hb3.mono be2.size)
  have HB3 := Lib.hid (HB2.out.below hb3 (by omega))
  clear HB2
  have rs0_3 := Lib.hid (rs0_2.out.later hb3)
  clear rs0_2
  clear hb3
  have rs1_3 := Lib.hid (ho3)
  have us1 := Lib.hid (World.ownsRow.lt ho3)
  clear ho3
  go_wp2_with fail
  have CC4 := FlowsWith_s _ ⟨J, xs, ds, ls, fs, dr, tol⟩ _ ss.length ss _ HF.out HL.out rs0_3.out rs1_3.out.ints (by omega)
  rw [← HRR.out] at CC4
  refine CC4.mono ?_
  clear CC4
  rintro e w4 ⟨v4, rfl, ho4, hb4⟩
  have sz4 : w3.heap.size ≤ w4.heap.size := hb4.size
  have be4 := be3.trans (hb4.mono be3.size)
  have HB4 := Lib.hid (HB3.out.below hb4 (by omega))
  clear HB3
  have rs0_4 := Lib.hid (rs0_3.out.later hb4)
  clear rs0_3
  have rs1_4 := Lib.hid (rs1_3.out.later hb4)
  clear rs1_3
  clear hb4
  obtain ⟨A_4, c_4, rfl, -, -⟩ := ho4.slice
  clear rs0_4 rs1_4
  have rw0_4 := Lib.hid (ho4)
  have uw0 := Lib.hid (World.ownsRow.lt ho4)
  clear ho4
  obtain ⟨⟨p0, p1, p2, p3, p4, p5, p6⟩, -⟩ := bx7 HB4.out
  go_wp2_with fail
  clear p0 p1 p2 p3 p4 p5 p6
  refine (toPlant_w _ ⟨J, xs, ds, ls, fs, dr, tol⟩ _ HL.out (HI.out.later be4)).mono ?_
  rintro e w5 ⟨v5, rfl, P5, C5, X5, hb5⟩
  have sz5 : w4.heap.size ≤ w5.heap.size := hb5.size
  have be5 := be4.trans (hb5.mono be4.size)
  have HB5 := Lib.hid (HB4.out.below hb5 (by omega))
  clear HB4
  have rw0_5 := Lib.hid (rw0_4.out.later hb5)
  clear rw0_4
  clear hb5
  have HCx0 := Lib.hid C5
  have rx0_5 := Lib.hid (P5)
  have rX0_5 := Lib.hid (X5)
  obtain ⟨B1, m1, B2, m2, B3, m3, B4, m4, B5, m5, rfl, -, -, -, -, -⟩ := P5
  (try dsimp only at *)
  clear C5 X5
  go_wp2_with fail
  have hb6 : Below w5.heap.size w5 (w5.alloc (.cells #[.int .i64 J, .slice B1 xs.length m1, .slice B2 ds.length m2, .slice B3 ls.length m3, .slice B4 fs.length m4, .slice B5 dr.length m5, .int .i64 tol] 57)) := (Below.refl _ _).alloc (Nat.le_refl _) _
  have hby : Bx (w5.alloc (.cells #[.int .i64 J, .slice B1 xs.length m1, .slice B2 ds.length m2, .slice B3 ls.length m3, .slice B4 fs.length m4, .slice B5 dr.length m5, .int .i64 tol] 57)) w5.heap.size [.int .i64 J, .slice B1 xs.length m1, .slice B2 ds.length m2, .slice B3 ls.length m3, .slice B4 fs.length m4, .slice B5 dr.length m5, .int .i64 tol] := bx7_of (by go_simp) (by go_simp) (by go_simp) (by go_simp) (by go_simp) (by go_simp) (by go_simp) (fun j => by go_simp)
  have szx : w5.heap.size < ((w5.alloc (.cells #[.int .i64 J, .slice B1 xs.length m1, .slice B2 ds.length m2, .slice B3 ls.length m3, .slice B4 fs.length m4, .slice B5 dr.length m5, .int .i64 tol] 57))).heap.size := by simp
  generalize (w5.alloc (.cells #[.int .i64 J, .slice B1 xs.length m1, .slice B2 ds.length m2, .slice B3 ls.length m3, .slice B4 fs.length m4, .slice B5 dr.length m5, .int .i64 tol] 57)) = w6 at *
  have sz6 : w5.heap.size ≤ w6.heap.size := hb6.size
  have be6 := be5.trans (hb6.mono be5.size)
  have HB6 := Lib.hid (HB5.out.below hb6 (by omega))
  clear HB5
  have rw0_6 := Lib.hid (rw0_5.out.later hb6)
  clear rw0_5
  have rx0_6 := Lib.hid (rx0_5.out.later hb6)
  clear rx0_5
  have rX0_6 := Lib.hid (rX0_5.out.below (hb6.mono (by omega)))
  clear rX0_5
  clear hb6
  have HY6 := Lib.hid hby
  clear hby
  refine (toBoolS_any AB cb ss w.heap.size _ (by omega) (HIB.out.below be6) be6.size).mono ?_
  rintro e w7 ⟨rfl, ho7, hb7⟩
  have sz7 : w6.heap.size ≤ w7.heap.size := hb7.size
  have be7 := be6.trans (hb7.mono be6.size)
  have HB7 := Lib.hid (HB6.out.below hb7 (by omega))
  clear HB6
  have HY7 := Lib.hid (HY6.out.below hb7 (by omega))
  clear HY6
  have rw0_7 := Lib.hid (rw0_6.out.later hb7)
  clear rw0_6
  have rx0_7 := Lib.hid (rx0_6.out.later hb7)
  clear rx0_6
  have rX0_7 := Lib.hid (rX0_6.out.below (hb7.mono (by omega)))
  clear rX0_6
  clear hb7
  have rx1_7 := Lib.hid (ho7)
  have ux1 := Lib.hid (World.ownsRow.lt ho7)
  clear ho7
  obtain ⟨⟨q0, q1, q2, q3, q4, q5, q6⟩, -⟩ := bx7 HY7.out
  go_wp2_with fail
  clear q0 q1 q2 q3 q4 q5 q6
  have CC8 := FlowsWith_i _ ⟨J, xs, ds, ls, fs, dr, tol⟩ _ ss.length ss _ HF.out HL.out HCx0.out rx0_7.out rx1_7.out.ints (by omega)
  rw [← HRR.out] at CC8
  refine CC8.mono ?_
  clear CC8
  rintro e w8 ⟨v8, rfl, ho8, hb8⟩
  have sz8 : w7.heap.size ≤ w8.heap.size := hb8.size
  have be8 := be7.trans (hb8.mono be7.size)
  have HB8 := Lib.hid (HB7.out.below hb8 (by omega))
  clear HB7
  have HY8 := Lib.hid (HY7.out.below hb8 (by omega))
  clear HY7
  have rw0_8 := Lib.hid (rw0_7.out.later hb8)
  clear rw0_7
  have rx0_8 := Lib.hid (rx0_7.out.later hb8)
  clear rx0_7
  have rX0_8 := Lib.hid (rX0_7.out.below (hb8.mono (by omega)))
  clear rX0_7
  have rx1_8 := Lib.hid (rx1_7.out.later hb8)
  clear rx1_7
  clear hb8
  obtain ⟨A_8, c_8, rfl, -, -⟩ := ho8.slice
  have rg0_8 := Lib.hid (ho8)
  have ug0 := Lib.hid (World.ownsRow.lt ho8)
  clear ho8
  go_wp2_with fail
  refine (dB (eqInt64S_yes _ _ _ _ R.1 _ _ _ (by omega) rg0_8.out.ints rw0_8.out.ints)).mono ?_
  rintro e w9 ⟨rfl, hb9⟩
  have sz9 : w8.heap.size ≤ w9.heap.size := hb9.size
  have be9 := be8.trans (hb9.mono be8.size)
  have HB9 := Lib.hid (HB8.out.below hb9 (by omega))
  clear HB8
  have HY9 := Lib.hid (HY8.out.below hb9 (by omega))
  clear HY8
  have rw0_9 := Lib.hid (rw0_8.out.later hb9)
  clear rw0_8
  have rx0_9 := Lib.hid (rx0_8.out.later hb9)
  clear rx0_8
  have rX0_9 := Lib.hid (rX0_8.out.below (hb9.mono (by omega)))
  clear rX0_8
  have rx1_9 := Lib.hid (rx1_8.out.later hb9)
  clear rx1_8
  have rg0_9 := Lib.hid (rg0_8.out.later hb9)
  clear rg0_8
  clear hb9
  obtain ⟨⟨p0, p1, p2, p3, p4, p5, p6⟩, -⟩ := bx7 HB9.out
  obtain ⟨⟨q0, q1, q2, q3, q4, q5, q6⟩, -⟩ := bx7 HY9.out
  have HBX := Lib.hid be9
  go_wp2_with fail
  go_region_held3 (fun w' => (w'.cell? ⟨w.heap.size, 0, none⟩ = some (.int .i64 J) ∧ w'.cell? ⟨w.heap.size, 1, none⟩ = some (.slice A1 xs.length k1) ∧ w'.cell? ⟨w.heap.size, 2, none⟩ = some (.slice A2 ds.length k2) ∧ w'.cell? ⟨w.heap.size, 3, none⟩ = some (.slice A3 ls.length k3) ∧ w'.cell? ⟨w.heap.size, 4, none⟩ = some (.slice A4 fs.length k4) ∧ w'.cell? ⟨w.heap.size, 5, none⟩ = some (.slice A5 dr.length k5) ∧ w'.cell? ⟨w.heap.size, 6, none⟩ = some (.int .i64 tol)) ∧ (w'.cell? ⟨w5.heap.size, 0, none⟩ = some (.int .i64 J) ∧ w'.cell? ⟨w5.heap.size, 1, none⟩ = some (.slice B1 xs.length m1) ∧ w'.cell? ⟨w5.heap.size, 2, none⟩ = some (.slice B2 ds.length m2) ∧ w'.cell? ⟨w5.heap.size, 3, none⟩ = some (.slice B3 ls.length m3) ∧ w'.cell? ⟨w5.heap.size, 4, none⟩ = some (.slice B4 fs.length m4) ∧ w'.cell? ⟨w5.heap.size, 5, none⟩ = some (.slice B5 dr.length m5) ∧ w'.cell? ⟨w5.heap.size, 6, none⟩ = some (.int .i64 tol)))
    (first
      | go_keep
      | exact ⟨⟨((bcell hb11).1 _ _ (by have := hb10.size; simp at this; omega)).trans (((bcell hb10).1 _ _ (by simp <;> omega)).trans p0), ((bcell hb11).1 _ _ (by have := hb10.size; simp at this; omega)).trans (((bcell hb10).1 _ _ (by simp <;> omega)).trans p1), ((bcell hb11).1 _ _ (by have := hb10.size; simp at this; omega)).trans (((bcell hb10).1 _ _ (by simp <;> omega)).trans p2), ((bcell hb11).1 _ _ (by have := hb10.size; simp at this; omega)).trans (((bcell hb10).1 _ _ (by simp <;> omega)).trans p3), ((bcell hb11).1 _ _ (by have := hb10.size; simp at this; omega)).trans (((bcell hb10).1 _ _ (by simp <;> omega)).trans p4), ((bcell hb11).1 _ _ (by have := hb10.size; simp at this; omega)).trans (((bcell hb10).1 _ _ (by simp <;> omega)).trans p5), ((bcell hb11).1 _ _ (by have := hb10.size; simp at this; omega)).trans (((bcell hb10).1 _ _ (by simp <;> omega)).trans p6)⟩, ((bcell hb11).1 _ _ (by have := hb10.size; simp at this; omega)).trans (((bcell hb10).1 _ _ (by simp <;> omega)).trans q0), ((bcell hb11).1 _ _ (by have := hb10.size; simp at this; omega)).trans (((bcell hb10).1 _ _ (by simp <;> omega)).trans q1), ((bcell hb11).1 _ _ (by have := hb10.size; simp at this; omega)).trans (((bcell hb10).1 _ _ (by simp <;> omega)).trans q2), ((bcell hb11).1 _ _ (by have := hb10.size; simp at this; omega)).trans (((bcell hb10).1 _ _ (by simp <;> omega)).trans q3), ((bcell hb11).1 _ _ (by have := hb10.size; simp at this; omega)).trans (((bcell hb10).1 _ _ (by simp <;> omega)).trans q4), ((bcell hb11).1 _ _ (by have := hb10.size; simp at this; omega)).trans (((bcell hb10).1 _ _ (by simp <;> omega)).trans q5), ((bcell hb11).1 _ _ (by have := hb10.size; simp at this; omega)).trans (((bcell hb10).1 _ _ (by simp <;> omega)).trans q6)⟩
      | exact ⟨⟨((bcell hb10).1 _ _ (by simp <;> omega)).trans p0, ((bcell hb10).1 _ _ (by simp <;> omega)).trans p1, ((bcell hb10).1 _ _ (by simp <;> omega)).trans p2, ((bcell hb10).1 _ _ (by simp <;> omega)).trans p3, ((bcell hb10).1 _ _ (by simp <;> omega)).trans p4, ((bcell hb10).1 _ _ (by simp <;> omega)).trans p5, ((bcell hb10).1 _ _ (by simp <;> omega)).trans p6⟩, ((bcell hb10).1 _ _ (by simp <;> omega)).trans q0, ((bcell hb10).1 _ _ (by simp <;> omega)).trans q1, ((bcell hb10).1 _ _ (by simp <;> omega)).trans q2, ((bcell hb10).1 _ _ (by simp <;> omega)).trans q3, ((bcell hb10).1 _ _ (by simp <;> omega)).trans q4, ((bcell hb10).1 _ _ (by simp <;> omega)).trans q5, ((bcell hb10).1 _ _ (by simp <;> omega)).trans q6⟩)
    (first
      | (go_at_call 25; refine (toPlant_any _ ⟨J, xs, ds, ls, fs, dr, tol⟩ _ HL.out (by first | exact HI.out.later HBX.out | exact HI.out.later HBX.out.drew)).mono ?_; rintro e w10 ⟨v10, rfl, P10, -, hb10⟩; have HPE := Lib.hid P10; clear P10)
      | (go_at_call 28; refine (eqPlant_yes _ _ ⟨J, xs, ds, ls, fs, dr, tol⟩ _ HL.out (by first | exact rx0_9.out.later hb10 | exact (rx0_9.out.later (Below.refl _ _).drew).later hb10) HPE.out).mono ?_; rintro e w11 ⟨rfl, hb11⟩))
  clear p0 p1 p2 p3 p4 p5 p6 q0 q1 q2 q3 q4 q5 q6 HPE
  have hcx : Below w9.heap.size w9 w10 := ((Below.refl w9.heap.size w9).drew).trans (hb10.mono (by simp))
  clear hb10
  have hb10 := hcx
  clear hcx
  have sz10 : w9.heap.size ≤ w10.heap.size := hb10.size
  have be10 := be9.trans (hb10.mono be9.size)
  have HB10 := Lib.hid (HB9.out.below hb10 (by omega))
  clear HB9
  have HY10 := Lib.hid (HY9.out.below hb10 (by omega))
  clear HY9
  have rw0_10 := Lib.hid (rw0_9.out.later hb10)
  clear rw0_9
  have rx0_10 := Lib.hid (rx0_9.out.later hb10)
  clear rx0_9
  have rX0_10 := Lib.hid (rX0_9.out.below (hb10.mono (by omega)))
  clear rX0_9
  have rx1_10 := Lib.hid (rx1_9.out.later hb10)
  clear rx1_9
  have rg0_10 := Lib.hid (rg0_9.out.later hb10)
  clear rg0_9
  clear hb10
  have sz11 : w10.heap.size ≤ w11.heap.size := hb11.size
  have be11 := be10.trans (hb11.mono be10.size)
  have HB11 := Lib.hid (HB10.out.below hb11 (by omega))
  clear HB10
  have HY11 := Lib.hid (HY10.out.below hb11 (by omega))
  clear HY10
  have rw0_11 := Lib.hid (rw0_10.out.later hb11)
  clear rw0_10
  have rx0_11 := Lib.hid (rx0_10.out.later hb11)
  clear rx0_10
  have rX0_11 := Lib.hid (rX0_10.out.below (hb11.mono (by omega)))
  clear rX0_10
  have rx1_11 := Lib.hid (rx1_10.out.later hb11)
  clear rx1_10
  have rg0_11 := Lib.hid (rg0_10.out.later hb11)
  clear rg0_10
  clear hb11
  go_wp2_with fail
  refine (toBoolS_any AB cb ss w.heap.size _ (by omega) (HIB.out.below be11) be11.size).mono ?_
  rintro e w12 ⟨rfl, ho12, hb12⟩
  have sz12 : w11.heap.size ≤ w12.heap.size := hb12.size
  have be12 := be11.trans (hb12.mono be11.size)
  have HB12 := Lib.hid (HB11.out.below hb12 (by omega))
  clear HB11
  have HY12 := Lib.hid (HY11.out.below hb12 (by omega))
  clear HY11
  have rw0_12 := Lib.hid (rw0_11.out.later hb12)
  clear rw0_11
  have rx0_12 := Lib.hid (rx0_11.out.later hb12)
  clear rx0_11
  have rX0_12 := Lib.hid (rX0_11.out.below (hb12.mono (by omega)))
  clear rX0_11
  have rx1_12 := Lib.hid (rx1_11.out.later hb12)
  clear rx1_11
  have rg0_12 := Lib.hid (rg0_11.out.later hb12)
  clear rg0_11
  clear hb12
  have ry_12 := Lib.hid (ho12)
  have uy := Lib.hid (World.ownsRow.lt ho12)
  clear ho12
  go_wp2_with fail
  refine (dB (eqBoolS_yes _ _ _ _ ss _ _ _ (by omega) rx1_12.out.ints ry_12.out.ints)).mono ?_
  rintro e w13 ⟨rfl, hb13⟩
  have sz13 : w12.heap.size ≤ w13.heap.size := hb13.size
  have be13 := be12.trans (hb13.mono be12.size)
  have HB13 := Lib.hid (HB12.out.below hb13 (by omega))
  clear HB12
  have HY13 := Lib.hid (HY12.out.below hb13 (by omega))
  clear HY12
  have rw0_13 := Lib.hid (rw0_12.out.later hb13)
  clear rw0_12
  have rx0_13 := Lib.hid (rx0_12.out.later hb13)
  clear rx0_12
  have rX0_13 := Lib.hid (rX0_12.out.below (hb13.mono (by omega)))
  clear rX0_12
  have rx1_13 := Lib.hid (rx1_12.out.later hb13)
  clear rx1_12
  have rg0_13 := Lib.hid (rg0_12.out.later hb13)
  clear rg0_12
  have ry_13 := Lib.hid (ry_12.out.later hb13)
  clear ry_12
  clear hb13
  clear ry_13
  clear rx0_13
  obtain ⟨⟨q0, q1, q2, q3, q4, q5, q6⟩, -⟩ := bx7 HY13.out
  go_wp2_with fail
  clear q0 q1 q2 q3 q4 q5 q6
  refine (markPlant_z w4.heap.size w5.heap.size _ ⟨J, xs, ds, ls, fs, dr, tol⟩ 1 _ HL.out (by omega) (by omega) (by omega) rX0_13.out).mono ?_
  clear rX0_13
  rintro e w14 ⟨rfl, hz14⟩
  have sz14 : w13.heap.size ≤ w14.heap.size := hz14.size
  have be14 : Below w.heap.size w w14 := hz14.below be13 be13.size (by omega)
  clear HY13
  have HB14 := Lib.hid (HB13.out.zone hz14 (.inl (by omega)) (by omega))
  clear HB13
  have rw0_14 := Lib.hid (rw0_13.out.zone hz14 uw0.out (by omega))
  clear rw0_13
  have rx1_14 := Lib.hid (rx1_13.out.zone hz14 ux1.out (by omega))
  clear rx1_13
  have rg0_14 := Lib.hid (rg0_13.out.zone hz14 ug0.out (by omega))
  clear rg0_13
  clear hz14
  go_wp2_with fail
  refine (markBoolS_own _ _ _ ss (1 + cntP ⟨J, xs, ds, ls, fs, dr, tol⟩) _ _ (by omega) (by omega) (by omega) rfl rx1_14.out).mono ?_
  rintro e w15 ⟨rfl, -, hg15⟩
  have sz15 : w14.heap.size ≤ w15.heap.size := hg15.size
  have be15 : Below w.heap.size w w15 := be14.grown hg15 be14.size (fun g h => by have := (ux1.out g h).1; omega)
  have HB15 := Lib.hid (HB14.out.kept hg15 (fun e => by have := (ux1.out _ e.symm).1; omega) (by omega))
  clear HB14
  have rw0_15 := Lib.hid (rw0_14.out.kept hg15 (apart_of uw0.out ux1.out (by omega)))
  clear rw0_14
  have rg0_15 := Lib.hid (rg0_14.out.kept hg15 (apart_of ug0.out ux1.out (by omega)))
  clear rg0_14
  clear hg15
  go_wp2_with fail
  refine (dB (eqInt64S_yes _ _ _ _ R.1 _ _ _ (by omega) rg0_15.out.ints rw0_15.out.ints)).mono ?_
  rintro e w16 ⟨rfl, hb16⟩
  have sz16 : w15.heap.size ≤ w16.heap.size := hb16.size
  have be16 := be15.trans (hb16.mono be15.size)
  have HB16 := Lib.hid (HB15.out.below hb16 (by omega))
  clear HB15
  have rw0_16 := Lib.hid (rw0_15.out.later hb16)
  clear rw0_15
  have rg0_16 := Lib.hid (rg0_15.out.later hb16)
  clear rg0_15
  clear hb16
  go_wp2_with fail
  refine (markInt64S_own _ _ _ R.1 1 _ _ (by omega) (by omega) (by omega) rfl rg0_16.out).mono ?_
  rintro e w17 ⟨rfl, hp17, hg17⟩
  have sz17 : w16.heap.size ≤ w17.heap.size := hg17.size
  have be17 : Below w.heap.size w w17 := be16.grown hg17 be16.size (fun g h => by have := (ug0.out g h).1; omega)
  have HB17 := Lib.hid (HB16.out.kept hg17 (fun e => by have := (ug0.out _ e.symm).1; omega) (by omega))
  clear HB16
  have rw0_17 := Lib.hid (rw0_16.out.kept hg17 (apart_of uw0.out ug0.out (by omega)))
  clear rw0_16
  clear hg17
  have rp0_17 := Lib.hid hp17
  clear hp17
  go_wp2_with fail
  refine (sB (heldInt64S_any _ _ R.1.length 1 _ _ (by omega) (by omega) (by omega) rp0_17.out.ints)).mono ?_
  rintro e w18 ⟨rfl, hb18⟩
  have sz18 : w17.heap.size ≤ w18.heap.size := hb18.size
  have be18 := be17.trans (hb18.mono be17.size)
  have HB18 := Lib.hid (HB17.out.below hb18 (by omega))
  clear HB17
  have rw0_18 := Lib.hid (rw0_17.out.later hb18)
  clear rw0_17
  have rp0_18 := Lib.hid (rp0_17.out.later hb18)
  clear rp0_17
  clear hb18
  obtain ⟨⟨p0, p1, p2, p3, p4, p5, p6⟩, -⟩ := bx7 HB18.out
  go_wp2_with fail
  clear p0 p1 p2 p3 p4 p5 p6
  refine (toPlant_any _ ⟨J, xs, ds, ls, fs, dr, tol⟩ _ HL.out (HI.out.later be18)).mono ?_
  rintro e w19 ⟨v19, rfl, P19, C19, hb19⟩
  have sz19 : w18.heap.size ≤ w19.heap.size := hb19.size
  have be19 := be18.trans (hb19.mono be18.size)
  have HB19 := Lib.hid (HB18.out.below hb19 (by omega))
  clear HB18
  have rw0_19 := Lib.hid (rw0_18.out.later hb19)
  clear rw0_18
  have rp0_19 := Lib.hid (rp0_18.out.later hb19)
  clear rp0_18
  clear hb19
  have HCh0 := Lib.hid C19
  have rh0_19 := Lib.hid (P19)
  clear P19 C19
  go_wp2_with fail
  refine (toBoolS_any AB cb ss w.heap.size _ (by omega) (HIB.out.below be19) be19.size).mono ?_
  rintro e w20 ⟨rfl, ho20, hb20⟩
  have sz20 : w19.heap.size ≤ w20.heap.size := hb20.size
  have be20 := be19.trans (hb20.mono be19.size)
  have HB20 := Lib.hid (HB19.out.below hb20 (by omega))
  clear HB19
  have rw0_20 := Lib.hid (rw0_19.out.later hb20)
  clear rw0_19
  have rp0_20 := Lib.hid (rp0_19.out.later hb20)
  clear rp0_19
  have rh0_20 := Lib.hid (rh0_19.out.later hb20)
  clear rh0_19
  clear hb20
  have rh1_20 := Lib.hid (ho20)
  have uh1 := Lib.hid (World.ownsRow.lt ho20)
  clear ho20
  go_wp2_with fail
  have CC21 := FlowsWith_i _ ⟨J, xs, ds, ls, fs, dr, tol⟩ _ ss.length ss _ HF.out HL.out HCh0.out rh0_20.out rh1_20.out.ints (by omega)
  rw [← HRR.out] at CC21
  refine CC21.mono ?_
  clear CC21
  rintro e w21 ⟨v21, rfl, ho21, hb21⟩
  have sz21 : w20.heap.size ≤ w21.heap.size := hb21.size
  have be21 := be20.trans (hb21.mono be20.size)
  have HB21 := Lib.hid (HB20.out.below hb21 (by omega))
  clear HB20
  have rw0_21 := Lib.hid (rw0_20.out.later hb21)
  clear rw0_20
  have rp0_21 := Lib.hid (rp0_20.out.later hb21)
  clear rp0_20
  have rh0_21 := Lib.hid (rh0_20.out.later hb21)
  clear rh0_20
  have rh1_21 := Lib.hid (rh1_20.out.later hb21)
  clear rh1_20
  clear hb21
  obtain ⟨A_21, c_21, rfl, -, -⟩ := ho21.slice
  clear rh0_21 rh1_21
  have rh_21 := Lib.hid (ho21)
  have uh := Lib.hid (World.ownsRow.lt ho21)
  clear ho21
  go_wp2_with fail
  refine (dB (eqInt64S_yes _ _ _ _ R.1 _ _ _ (by omega) rh_21.out.ints rw0_21.out.ints)).mono ?_
  rintro e w22 ⟨rfl, hb22⟩
  have sz22 : w21.heap.size ≤ w22.heap.size := hb22.size
  have be22 := be21.trans (hb22.mono be21.size)
  have HB22 := Lib.hid (HB21.out.below hb22 (by omega))
  clear HB21
  have rw0_22 := Lib.hid (rw0_21.out.later hb22)
  clear rw0_21
  have rp0_22 := Lib.hid (rp0_21.out.later hb22)
  clear rp0_21
  have rh_22 := Lib.hid (rh_21.out.later hb22)
  clear rh_21
  clear hb22
  go_wp2_with fail
  refine (sB (heldInt64S_any _ _ R.1.length 1 _ _ (by omega) (by omega) (by omega) rp0_22.out.ints)).mono ?_
  rintro e w23 ⟨rfl, hb23⟩
  have sz23 : w22.heap.size ≤ w23.heap.size := hb23.size
  have be23 := be22.trans (hb23.mono be22.size)
  have HB23 := Lib.hid (HB22.out.below hb23 (by omega))
  clear HB22
  have rw0_23 := Lib.hid (rw0_22.out.later hb23)
  clear rw0_22
  have rp0_23 := Lib.hid (rp0_22.out.later hb23)
  clear rp0_22
  have rh_23 := Lib.hid (rh_22.out.later hb23)
  clear rh_22
  clear hb23
  go_wp2_with fail
  go_ret
  exact ⟨rfl, be23⟩
end Go.Proofs.YtejkoicgbgoiaaaGreat
