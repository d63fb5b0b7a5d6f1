/- Proved here: the parts Add, SolP, SolI, SolS, Fire of the row's proof, joined by a program. Conditions: as each part says. -/
import Derived.Test.YtejkoicgbgoiaaaGreatFl9
import Derived.Deep.DeepCutAuto
import Derived.Deep.RegionHeld3
/- Flows: an amount that is added along a walk, by the program and by the reference. Conditions: the facts on memory and on lengths that each theorem names. -/
namespace Go.Proofs.YtejkoicgbgoiaaaGreat
open Go.RowKit
open Pl
theorem addK_step {fl wk : List Int} {a : Int} {k : Nat} : addK fl wk a (k + 1) = (addK fl wk a k).set (ixI (wk.getD k 0)) ((addK fl wk a k).getD (ixI (wk.getD k 0)) 0 + sgI (wk.getD k 0) * a) := rfl
set_option maxRecDepth 100000 in
set_option maxHeartbeats 1600000 in
theorem addAlong_any (nx g c base : Nat) (fl : List Int) (AW : Option Addr) (cw : Nat) (wk : List Int) (a : Int) (B : Nat) (w : World) (hrow : w.ownsRow base 2 1 (.slice (some ⟨g, 0, none⟩) nx c) nx (vals fl)) (hl : fl.length = nx) (hI : Ints B w AW wk) (hne : ∀ ad, AW = some ad → ad.block ≠ g) (hf : ∀ i, i < nx → -100000 ≤ fl.getD i 0 ∧ fl.getD i 0 ≤ 100000) (ha : -10000 ≤ a ∧ a ≤ 10000) (hw : WalkOk nx wk) (hn : nx ≤ 24) (hk : wk.length ≤ 100) :
    Calls Tryz.prog 97 #[.slice (some ⟨g, 0, none⟩) nx c, .slice AW wk.length cw, .int .i64 a] w fun e w' => e = .returned (.tuple #[]) ∧ w'.ownsRow base 2 1 (.slice (some ⟨g, 0, none⟩) nx c) nx (vals (addW fl wk a)) ∧ w.grownBy w' (some g) := by
  have HROW := Lib.hid hrow
  have HL := Lib.hid hl
  have J := Lib.hid hI
  have HNE := Lib.hid hne
  have HF := Lib.hid hf
  have HW := Lib.hid hw
  unfold addW
  clear hrow hl hI hne hf hw
  go_enter Tryz.func97, Tryz.ntmps97
  go_wp2
  go_loopw [12] (fun ii wr => ∃ k : Nat, k ≤ wk.length ∧ ii = .int .i64 k ∧ wr.ownsRow base 2 1 (.slice (some ⟨g, 0, none⟩) nx c) nx (vals (addK fl wk a k)) ∧ w.grownBy wr (some g)) (fun ii _ => wk.length - (intOf ii).toNat)
  case atStart => exact ⟨0, Nat.zero_le _, rfl, HROW.out, World.grownBy.refl _ _⟩
  case round =>
    obtain ⟨k, hkl, rfl, hr, hg⟩ := hrel
    by_cases hlt : k < wk.length
    · obtain ⟨hn0, hix, hna⟩ := HW.out k hlt
      obtain ⟨ad, rfl, -, hc0⟩ := J.out.atD hlt
      have hc := hg.cell hc0 (fun e => by rw [block_add] at e; injection e with e; exact HNE.out ad rfl e)
      have hlen : (addK fl wk a k).length = nx := (addK_length _ _ _ _).trans HL.out
      have hx := addK_bd HL.out HF.out ha HW.out k (by omega) _ hix
      have hst := addK_step (fl := fl) (wk := wk) (a := a) (k := k)
      have hm := sg_mul (n := wk.getD k 0) (d := a) (B := 10000) (by omega) (by omega)
      have hca := row_cell hr hlen hix
      have hfz := row_free hr (ixI (wk.getD k 0))
      have HR := Lib.hid hr
      have HG := Lib.hid hg
      have HA := Lib.hid (fun W => airwayOf_any (wk.getD k 0) W hn0 (by omega))
      have HST := Lib.hid hst
      have z1 : (ixI (wk.getD k 0) : Int) < nx := by omega
      clear hst hr hg hlen hc0
      generalize addK fl wk a k = D at *
      generalize D.getD (ixI (wk.getD k 0)) 0 = x at *
      generalize ixI (wk.getD k 0) = i at *
      generalize sgI (wk.getD k 0) = sg at *
      generalize wk.getD k 0 = n at *
      have i0 : (0 : Int) ≤ (k : Int) := by omega
      have i1 : (k : Int) < wk.length := by omega
      have z0 : (0 : Int) ≤ (i : Int) := by omega
      go_wp2_with (go_at_call 131; refine (HA.out _).mono ?_; rintro e w' ⟨rfl, rfl⟩)
      go_roundw
      case rel =>
        obtain ⟨r1, r2⟩ := World.ownsRow.stored HR.out i (.int .i64 (x + sg * a))
        rw [vals_set] at r1
        exact ⟨k + 1, by omega, by go_num, by rw [HST.out]; exact r1, HG.out.trans r2⟩
      case measure => simp [intOf]; omega
    · obtain rfl : k = wk.length := by omega
      have HR := Lib.hid hr
      clear hr
      go_wp2
      go_end0
      exact ⟨rfl, HR.out, hg⟩
set_option maxRecDepth 100000 in
set_option maxHeartbeats 1600000 in
theorem l07Add_any (nx g c base : Nat) (fl : List Int) (AW : Option Addr) (cw : Nat) (wk : List Int) (a : Int) (B : Nat) (w : World) (hrow : w.ownsRow base 2 1 (.slice (some ⟨g, 0, none⟩) nx c) nx (vals fl)) (hl : fl.length = nx) (hI : Ints B w AW wk) (hne : ∀ ad, AW = some ad → ad.block ≠ g) (hf : ∀ i, i < nx → -100000 ≤ fl.getD i 0 ∧ fl.getD i 0 ≤ 100000) (ha : -10000 ≤ a ∧ a ≤ 10000) (hw : WalkOk nx wk) (hn : nx ≤ 24) (hk : wk.length ≤ 100) :
    Calls Tryz.prog 114 #[.slice (some ⟨g, 0, none⟩) nx c, .slice AW wk.length cw, .int .i64 a] w fun e w' => e = .returned (.tuple #[]) ∧ w'.ownsRow base 2 1 (.slice (some ⟨g, 0, none⟩) nx c) nx (vals (addW fl wk a)) ∧ w.grownBy w' (some g) := by
  have HROW := Lib.hid hrow
  have HL := Lib.hid hl
  have J := Lib.hid hI
  have HNE := Lib.hid hne
  have HF := Lib.hid hf
  have HW := Lib.hid hw
  unfold addW
  clear hrow hl hI hne hf hw
  go_enter Tryz.func114, Tryz.ntmps114
  go_wp2
  go_loopw [6] (fun ii wr => ∃ k : Nat, k ≤ wk.length ∧ ii = .int .i64 k ∧ wr.ownsRow base 2 1 (.slice (some ⟨g, 0, none⟩) nx c) nx (vals (addK fl wk a k)) ∧ w.grownBy wr (some g)) (fun ii _ => wk.length - (intOf ii).toNat)
  case atStart => exact ⟨0, Nat.zero_le _, rfl, HROW.out, World.grownBy.refl _ _⟩
  case round =>
    obtain ⟨k, hkl, rfl, hr, hg⟩ := hrel
    by_cases hlt : k < wk.length
    · obtain ⟨hn0, hix, hna⟩ := HW.out k hlt
      obtain ⟨ad, rfl, -, hc0⟩ := J.out.atD hlt
      have hc := hg.cell hc0 (fun e => by rw [block_add] at e; injection e with e; exact HNE.out ad rfl e)
      have hlen : (addK fl wk a k).length = nx := (addK_length _ _ _ _).trans HL.out
      have hx := addK_bd HL.out HF.out ha HW.out k (by omega) _ hix
      have hst := addK_step (fl := fl) (wk := wk) (a := a) (k := k)
      have hip := ix_pos hn0
      have hca := row_cell hr hlen hix
      have hfz := row_free hr (ixI (wk.getD k 0))
      have HR := Lib.hid hr
      have HG := Lib.hid hg
      have HST := Lib.hid hst
      have HSG : Hid (sgI (wk.getD k 0) = if 0 < wk.getD k 0 then 1 else -1) := Lib.hid rfl
      have z1 : (ixI (wk.getD k 0) : Int) < nx := by omega
      clear hst hr hg hlen hc0
      generalize addK fl wk a k = D at *
      generalize D.getD (ixI (wk.getD k 0)) 0 = x at *
      generalize ixI (wk.getD k 0) = i at *
      generalize sgI (wk.getD k 0) = sg at *
      generalize wk.getD k 0 = n at *
      have i0 : (0 : Int) ≤ (k : Int) := by omega
      have i1 : (k : Int) < wk.length := by omega
      have z0 : (0 : Int) ≤ (i : Int) := by omega
      by_cases hp : 0 < n
      · have hwr : IntKind.i64.wrap (n - 1) = (i : Int) := by rw [if_pos hp] at hip; rw [IntWalk.i64_in _ (by omega)]; omega
        have HST2 := Lib.hid (show addK fl wk a (k + 1) = D.set i (x + a) by rw [HST.out, HSG.out, if_pos hp, Int.one_mul])
        clear hip
        go_wp2
        go_roundw
        case rel =>
          obtain ⟨r1, r2⟩ := World.ownsRow.stored HR.out i (.int .i64 (x + a))
          rw [vals_set] at r1
          exact ⟨k + 1, by omega, by go_num, by rw [HST2.out]; exact r1, HG.out.trans r2⟩
        case measure => simp [intOf]; omega
      · have hwr : IntKind.i64.wrap (-n - 1) = (i : Int) := by rw [if_neg hp] at hip; rw [IntWalk.i64_in _ (by omega)]; omega
        have HST2 := Lib.hid (show addK fl wk a (k + 1) = D.set i (x - a) by rw [HST.out, HSG.out, if_neg hp]; congr 1; omega)
        clear hip
        go_wp2
        go_roundw
        case rel =>
          obtain ⟨r1, r2⟩ := World.ownsRow.stored HR.out i (.int .i64 (x - a))
          rw [vals_set] at r1
          exact ⟨k + 1, by omega, by go_num, by rw [HST2.out]; exact r1, HG.out.trans r2⟩
        case measure => simp [intOf]; omega
    · obtain rfl : k = wk.length := by omega
      have HR := Lib.hid hr
      clear hr
      go_wp2
      go_end0
      exact ⟨rfl, HR.out, hg⟩
end Go.Proofs.YtejkoicgbgoiaaaGreat

/- Flows: flows whose meshes have small errors: what they are, and what lies in memory on the way. Conditions: those that each lemma names. -/
namespace Go.Proofs.YtejkoicgbgoiaaaGreat
open Go.RowKit
open Pl
/-- Flows that solve a network, the greatest error, a code. -/
noncomputable def solveF (J : Int) (xs : List Aw) (rs : List Int) (fs : List Fa) (dr st : List Int) (tol rds : Int) : List Int × Int × Int :=
  if (mineB J xs && fansB fs) = true then
    if (inB tol 0 100000 && inB rds 0 500) = true then
      if (sysB xs.length rs dr st && hasFB xs.length fs) = true then
        if balB J.toNat xs st = true then solveR rs dr fs (meshesF J.toNat xs) tol rds.toNat st else ([], 0, 6)
      else ([], 0, 7)
    else ([], 0, 2)
  else ([], 0, 1)
theorem solveR_zero {rs dr : List Int} {fs : List Fa} {ms : List (List Int)} {tol : Int} {fl : List Int} : solveR rs dr fs ms tol 0 fl = if worstL (errsL rs (pushF fs fl dr) fl ms) ≤ tol then (fl, worstL (errsL rs (pushF fs fl dr) fl ms), 0) else ([], worstL (errsL rs (pushF fs fl dr) fl ms), 5) := rfl
theorem solveR_yes {rs dr : List Int} {fs : List Fa} {ms : List (List Int)} {tol : Int} {fl : List Int} (h : worstL (errsL rs (pushF fs fl dr) fl ms) ≤ tol) : ∀ n, solveR rs dr fs ms tol n fl = (fl, worstL (errsL rs (pushF fs fl dr) fl ms), 0)
  | 0 => by rw [solveR_zero, if_pos h]
  | n + 1 => by unfold solveR; rw [if_pos h]
theorem solveR_full {rs dr : List Int} {fs : List Fa} {ms : List (List Int)} {tol : Int} {fl : List Int} (h : ¬ worstL (errsL rs (pushF fs fl dr) fl ms) ≤ tol) : solveR rs dr fs ms tol 0 fl = ([], worstL (errsL rs (pushF fs fl dr) fl ms), 5) := by rw [solveR_zero, if_neg h]
theorem solveR_bad {rs dr : List Int} {fs : List Fa} {ms : List (List Int)} {tol : Int} {fl : List Int} {n : Nat} (h : ¬ worstL (errsL rs (pushF fs fl dr) fl ms) ≤ tol) (hp : passK rs dr fs ms fl = none) : solveR rs dr fs ms tol (n + 1) fl = ([], 0, 6) := by unfold solveR; rw [if_neg h, hp]
theorem solveR_go {rs dr : List Int} {fs : List Fa} {ms : List (List Int)} {tol : Int} {fl fl' : List Int} {n : Nat} (h : ¬ worstL (errsL rs (pushF fs fl dr) fl ms) ≤ tol) (hp : passK rs dr fs ms fl = some fl') : solveR rs dr fs ms tol (n + 1) fl = solveR rs dr fs ms tol n fl' := by
  have e : solveR rs dr fs ms tol (n + 1) fl = if worstL (errsL rs (pushF fs fl dr) fl ms) ≤ tol then (fl, worstL (errsL rs (pushF fs fl dr) fl ms), 0) else
    match passK rs dr fs ms fl with
      | none => ([], 0, 6)
      | some fl' => solveR rs dr fs ms tol n fl' := rfl
  rw [e, if_neg h, hp]
theorem passK_drop {rs dr : List Int} {fs : List Fa} {ms : List (List Int)} {k : Nat} {fl : List Int} (hk : k < ms.length) :
    passK rs dr fs (ms.drop k) fl = if flowsB (addW fl (ms.getD k []) (stepW rs (pushF fs fl dr) fl (ms.getD k []))) then passK rs dr fs (ms.drop (k + 1)) (addW fl (ms.getD k []) (stepW rs (pushF fs fl dr) fl (ms.getD k []))) else none := by
  rw [List.drop_eq_getElem_cons hk, getD_il hk]
  rfl
theorem passK_end {rs dr : List Int} {fs : List Fa} {ms : List (List Int)} {fl : List Int} : passK rs dr fs (ms.drop ms.length) fl = some fl := by rw [List.drop_length]; rfl
theorem fans_ok {nx : Nat} {fs : List Fa} (h : fansB fs = true) (h2 : hasFB nx fs = true) : FansOk nx fs := by
  unfold fansB at h
  rw [Bool.and_eq_true, decide_eq_true_eq, allUp_iff] at h
  have key : ∀ k, k < fs.length → (0 ≤ (fs.getD k nFa).aw ∧ (fs.getD k nFa).aw ≤ 23) ∧ curveB (fs.getD k nFa).cv = true := fun k hk => by
    have h1 := h.2 k hk
    unfold fansP fanB at h1
    simp only [Bool.and_eq_true] at h1
    exact ⟨inB_iff.1 h1.1.2.1, h1.1.2.2⟩
  refine ⟨by omega, fun k hk => ?_, fun k hk => curved (key k hk).2⟩
  have h3 := (key k hk).1
  unfold hasFB at h2
  rw [Bool.not_eq_true'] at h2
  have h4 := List.any_eq_false.1 h2 _ (List.getElem_mem hk)
  rw [← getD_fa hk] at h4
  have h5 : inB (fs.getD k nFa).aw 0 ((nx : Int) - 1) = true := by simpa using h4
  have h6 := inB_iff.1 h5
  exact ⟨(fs.getD k nFa).aw.toNat, by omega, by omega⟩
theorem fans_aw {fs : List Fa} (h : fansB fs = true) : ∀ x ∈ fs, 0 ≤ x.aw := by
  intro x hx
  obtain ⟨k, hk, rfl⟩ := List.getElem_of_mem hx
  unfold fansB at h
  rw [Bool.and_eq_true, allUp_iff] at h
  have h1 := h.2 k hk
  unfold fansP at h1
  rw [Bool.and_eq_true, getD_fa hk] at h1
  have h2 := h1.1
  unfold fanB at h2
  simp only [Bool.and_eq_true] at h2
  exact (inB_iff.1 h2.2.1).1
theorem pushF_length (fs : List Fa) (fl dr : List Int) : (pushF fs fl dr).length = dr.length := pushK_length _ _ _ _
theorem sys_ok {nx : Nat} {rs dr fl : List Int} {fs : List Fa} (hf : FansOk nx fs) (hr : rs.length = nx ∧ ∀ i, i < nx → 1 ≤ rs.getD i 0 ∧ rs.getD i 0 ≤ 1000000) (hd : dr.length = nx ∧ ∀ i, i < nx → -100000 ≤ dr.getD i 0 ∧ dr.getD i 0 ≤ 100000) (hl : fl.length = nx) (hb : ∀ i, i < nx → -100000 ≤ fl.getD i 0 ∧ fl.getD i 0 ≤ 100000) : SysOk nx rs (pushF fs fl dr) fl :=
  ⟨hr.1, (pushF_length _ _ _).trans hd.1, hl, hr.2, fun i hi => by
    have := pushK_bd (fl := fl) hf hd.1 hd.2 fs.length (Nat.le_refl _) i hi
    have h8 := hf.few
    unfold pushF
    omega, hb⟩
theorem fits_of {nx : Nat} {xs : List Int} (hl : xs.length = nx) (h : ∀ i, i < nx → -9000000000 ≤ xs.getD i 0 ∧ xs.getD i 0 ≤ 9000000000) : Fits xs := by
  intro x hx
  obtain ⟨k, hk, rfl⟩ := List.getElem_of_mem hx
  have := h k (by omega)
  rw [getD_pt hk] at this
  omega
/-- Lists of numbers that are only read, apart from a row. -/
def NestA (row : Option Nat) (w : World) (A : Option Addr) (xss : List (List Int)) : Prop :=
  0 < xss.length → ∃ b o, A = some ⟨b, o, none⟩ ∧ b < w.heap.size ∧ some b ≠ row ∧ ∀ k, k < xss.length → ∃ A' c, w.cell? ⟨b, o + k, none⟩ = some (.slice A' (xss.getD k []).length c) ∧ Ints w.heap.size w A' (xss.getD k []) ∧ ∀ ad, A' = some ad → some ad.block ≠ row
theorem NestA.nest {row : Option Nat} {w : World} {A : Option Addr} {xss : List (List Int)} (h : NestA row w A xss) : Nest w.heap.size w A xss := by
  intro hn
  obtain ⟨b, o, e, hlt, _, hc⟩ := h hn
  refine ⟨b, o, e, hlt, fun k hk => ?_⟩
  obtain ⟨A', c, h1, h2, _⟩ := hc k hk
  rw [getD_il hk] at h1 h2
  exact ⟨A', c, h1, h2⟩
theorem NestA.at_ {row : Option Nat} {w : World} {A : Option Addr} {xss : List (List Int)} (h : NestA row w A xss) {k : Nat} (hk : k < xss.length) : ∃ b o A' c, A = some ⟨b, o, none⟩ ∧ w.cell? ⟨b, o + k, none⟩ = some (.slice A' (xss.getD k []).length c) ∧ Ints w.heap.size w A' (xss.getD k []) ∧ ∀ ad, A' = some ad → some ad.block ≠ row := by
  obtain ⟨b, o, e, _, _, hc⟩ := h (by omega)
  obtain ⟨A', c, h1, h2, h3⟩ := hc k hk
  exact ⟨b, o, A', c, e, h1, h2, h3⟩
theorem NestA.grown {row : Option Nat} {w w' : World} {A : Option Addr} {xss : List (List Int)} (h : NestA row w A xss) (hg : w.grownBy w' row) : NestA row w' A xss := by
  intro hn
  obtain ⟨b, o, e, hlt, hne, hc⟩ := h hn
  refine ⟨b, o, e, Nat.lt_of_lt_of_le hlt hg.size, hne, fun k hk => ?_⟩
  obtain ⟨A', c, h1, h2, h3⟩ := hc k hk
  exact ⟨A', c, hg.cell h1 hne, h2.grown hg h3 hg.size, h3⟩
/-- Lists that lie from L on, beside a row that lies below L. -/
theorem NestA.new {L : Nat} {row : Option Nat} {w : World} {A : Option Addr} {xss : List (List Int)} (h : NestL L w.heap.size w A xss) (hr : ∀ g, row = some g → g < L) : NestA row w A xss := by
  intro hn
  obtain ⟨b, o, e, hl, hlt, hc⟩ := h hn
  refine ⟨b, o, e, hlt, fun e2 => by have := hr b e2.symm; omega, fun k hk => ?_⟩
  obtain ⟨A', c, h1, h2, h3⟩ := hc k hk
  rw [getD_il hk]
  exact ⟨A', c, h1, h2, fun ad ha e2 => by have := hr _ e2.symm; have := h3 ad ha; omega⟩
/-- Lists of the call's own, beside a row that was laid later. -/
theorem OwnN.nestA {base : Nat} {row : Option Nat} {w w' : World} {A : Option Addr} {n c : Nat} {xss : List (List Int)} {vs : List Value} (h : OwnN base w (.slice A n c) xss vs) (hb : Below w.heap.size w w') (hr : ∀ g, row = some g → w.heap.size ≤ g) : NestA row w' A xss := by
  intro hn
  have h2 := h.later hb
  have hr1 := h.row
  have hr2 := h2.row
  rcases hr2.2 with ⟨hv, h0⟩ | ⟨g, cap, cur, hv, hbg, hg, _⟩
  · omega
  · injection hv with e1 e2 e3
    subst e1
    have hlt1 := (World.ownsRow.lt hr1 g rfl).2
    refine ⟨g, 0, rfl, (Array.getElem?_eq_some_iff.1 hg).1, fun e => by have := hr g e.symm; omega, fun k hk => ?_⟩
    obtain ⟨A', c', f1, f2, f3⟩ := h2.el k hk
    obtain ⟨A2, c2, g1, g2, g3⟩ := h.el k hk
    rw [f1] at g1
    injection g1 with g1
    injection g1 with g4 g5 g6
    subst g4
    refine ⟨A', c', ?_, f2, fun ad ha e => ?_⟩
    · rw [Nat.zero_add]
      subst e2
      rw [World.ownsRow.cellAt hr2 k (by omega)]
      exact f1
    · have := (g3 ad ha).2.1
      have := hr _ e.symm
      omega
/-- What lies in memory while flows are solved: flows in a row of the call's own, meshes apart from it. -/
structure Sol (w0 wr : World) (AV : Option Addr) (cv nx : Nat) (fl : List Int) (AM : Option Addr) (ms : List (List Int)) : Prop where
  below : Below w0.heap.size w0 wr
  own : Own w0.heap.size wr (.slice AV nx cv) fl
  nest : NestA (Value.slice AV nx cv).ownBlock wr AM ms
  len : fl.length = nx
  bd : ∀ i, i < nx → -100000 ≤ fl.getD i 0 ∧ fl.getD i 0 ≤ 100000
theorem Sol.later {w0 wr w' : World} {AV : Option Addr} {cv nx : Nat} {fl : List Int} {AM : Option Addr} {ms : List (List Int)} (h : Sol w0 wr AV cv nx fl AM ms) (hb : Below wr.heap.size wr w') : Sol w0 w' AV cv nx fl AM ms :=
  ⟨h.below.trans (hb.mono h.below.size), h.own.later hb, h.nest.grown (Below.grownBy hb _), h.len, h.bd⟩
theorem Sol.ints {w0 wr : World} {AV : Option Addr} {cv nx : Nat} {fl : List Int} {AM : Option Addr} {ms : List (List Int)} (h : Sol w0 wr AV cv nx fl AM ms) : Ints wr.heap.size wr AV fl := h.own.ints
theorem Sol.stored {w0 wr w' : World} {g cv nx : Nat} {fl fl' : List Int} {AM : Option Addr} {ms : List (List Int)} (h : Sol w0 wr (some ⟨g, 0, none⟩) cv nx fl AM ms) (hg : wr.grownBy w' (some g)) (hr : w'.ownsRow w0.heap.size 2 1 (.slice (some ⟨g, 0, none⟩) nx cv) nx (vals fl')) (hl : fl'.length = nx) (hb : ∀ i, i < nx → -100000 ≤ fl'.getD i 0 ∧ fl'.getD i 0 ≤ 100000) : Sol w0 w' (some ⟨g, 0, none⟩) cv nx fl' AM ms := by
  have hge : w0.heap.size ≤ g := (World.ownsRow.lt hr g rfl).1
  exact ⟨h.below.grown hg h.below.size (fun j hj => by injection hj with hj; omega), Own.of_row hr hl hge, h.nest.grown hg, hl, hb⟩
end Go.Proofs.YtejkoicgbgoiaaaGreat

/- Flows: flows whose meshes have small errors, by the program. Conditions: the facts on memory and on lengths that each theorem names. -/
namespace Go.Proofs.YtejkoicgbgoiaaaGreat
open Go.RowKit
open Pl
theorem ret_v3 {v : Value} {a b c d : Int} (h : (a, b) = (c, d)) : Ending.returned (.tuple #[v, .int .i64 a, .int .i64 b]) = .returned (.tuple #[v, .int .i64 c, .int .i64 d]) := by injection h with h1 h2; rw [h1, h2]
set_option maxRecDepth 100000 in
set_option maxHeartbeats 6400000 in
theorem SolveFlows_i (J : Int) (A : Option Addr) (cp : Nat) (xs : List Aw) (AR : Option Addr) (cr : Nat) (rs : List Int) (AF : Option Addr) (cf : Nat) (fs : List Fa) (AD : Option Addr) (cd : Nat) (dr : List Int) (AS : Option Addr) (cs : Nat) (st : List Int) (tol rds : Int) (w : World) (hxl : (xs.length : Int) ≤ 1048576) (hrl : rs.length ≤ 1048576) (hfl : fs.length ≤ 1048576) (hdl : dr.length ≤ 1048576) (hsl : st.length ≤ 1048576) (fX : FitsA xs) (fR : Fits rs) (fF : FitsF fs) (lF : FansLen fs) (fD : Fits dr) (fS : Fits st) (hI : Recs encA 7 w.heap.size w A xs) (hR : Ints w.heap.size w AR rs) (hF : Fns w.heap.size w AF fs) (hD : Ints w.heap.size w AD dr) (hS : Ints w.heap.size w AS st) :
    Calls Tryz.prog 64 #[.agg #[.int .i64 J, .slice A xs.length cp], .slice AR rs.length cr, .slice AF fs.length cf, .slice AD dr.length cd, .slice AS st.length cs, .int .i64 tol, .int .i64 rds] w fun e w' => ∃ u, e = .returned (.tuple #[u, .int .i64 (solveF J xs rs fs dr st tol rds).2.1, .int .i64 (solveF J xs rs fs dr st tol rds).2.2]) ∧ Own w.heap.size w' u (solveF J xs rs fs dr st tol rds).1 ∧ Below w.heap.size w w' := by
  obtain ⟨R, hRR⟩ : ∃ R, R = solveF J xs rs fs dr st tol rds := ⟨_, rfl⟩
  rw [← hRR]
  have HR := Lib.hid hRR
  have C1 := Lib.hid (fun (W : World) (hb : Below w.heap.size w W) => ValidMine_i J A cp xs w.heap.size W (by omega) fX (hI.below hb) hb.size)
  have C2 := Lib.hid (fun (W : World) (hb : Below w.heap.size w W) => ValidFans_i AF cf fs w.heap.size W (by omega) fF lF (hF.below hb) hb.size)
  have C3 := Lib.hid (fun (W : World) (hb : Below w.heap.size w W) => hasSystem_any J A cp xs AR cr rs AD cd dr AS cs st w.heap.size W (by omega) (by omega) (by omega) (by omega) (hR.below hb) (hD.below hb) (hS.below hb) hb.size fR fD fS)
  have C4 := Lib.hid (fun (W : World) (hb : Below w.heap.size w W) => hasFans_any J A cp xs.length AF cf fs w.heap.size W (by omega) (by omega) (hF.below hb) hb.size)
  have C5 := Lib.hid (fun (W : World) (hb : Below w.heap.size w W) => Clone_any AS cs st w.heap.size W hsl (hS.below hb))
  have GI := Lib.hid hI
  have GR := Lib.hid hR
  have GF := Lib.hid hF
  have GD := Lib.hid hD
  have GS := Lib.hid hS
  have be0 : Below w.heap.size w (w.alloc (.cells #[.int .i64 J, .slice A xs.length cp] 33)) := by go_grown
  have k0 : ((w.alloc (.cells #[.int .i64 J, .slice A xs.length cp] 33))).cell? ⟨w.heap.size, 0, none⟩ = some (.int .i64 J) := by go_simp
  have k1 : ((w.alloc (.cells #[.int .i64 J, .slice A xs.length cp] 33))).cell? ⟨w.heap.size, 1, none⟩ = some (.slice A xs.length cp) := by go_simp
  have szb : w.heap.size < ((w.alloc (.cells #[.int .i64 J, .slice A xs.length cp] 33))).heap.size := by simp
  have K0 := Lib.hid k0
  have K1 := Lib.hid k1
  clear hI hR hF hD hS fX fR fF lF fD fS hRR
  go_enter Tryz.func64, Tryz.ntmps64
  go_wp2_with fail
  generalize (w.alloc (.cells #[.int .i64 J, .slice A xs.length cp] 33)) = w0 at *
  refine (C1.out _ be0).mono ?_
  rintro e w1 ⟨rfl, hb1⟩
  have k01 := cell_later hb1 k0
  have k11 := cell_later hb1 k1
  have be1 := be0.trans (hb1.mono be0.size)
  have bx1 := hb1
  cases h1 : mineB J xs
  · have HG : Hid (R = ([], 0, 1)) := Lib.hid (by rw [HR.out]; unfold solveF; rw [h1]; rfl)
    clear h1
    go_wp2_with fail
    go_ret3
    refine ⟨.slice none 0 0, ret_v3 (by rw [HG.out]), ?_, be1⟩
    rw [HG.out]; exact Own.nil_ _ _
  have H1 := Lib.hid h1
  clear h1 k0 k1 hb1
  go_wp2_with fail
  refine (C2.out _ be1).mono ?_
  rintro e w2 ⟨rfl, hb2⟩
  have k02 := cell_later hb2 k01
  have k12 := cell_later hb2 k11
  have be2 := be1.trans (hb2.mono be1.size)
  have bx2 := bx1.trans (hb2.mono bx1.size)
  cases h2 : fansB fs
  · have HG : Hid (R = ([], 0, 1)) := Lib.hid (by rw [HR.out]; unfold solveF; rw [H1.out, h2]; rfl)
    clear h2
    go_wp2_with fail
    go_ret3
    refine ⟨.slice none 0 0, ret_v3 (by rw [HG.out]), ?_, be2⟩
    rw [HG.out]; exact Own.nil_ _ _
  have H2 := Lib.hid h2
  clear h2 k01 k11 hb2 bx1
  cases h3 : inB tol 0 100000
  · have HG : Hid (R = ([], 0, 2)) := Lib.hid (by rw [HR.out]; unfold solveF; rw [H1.out, H2.out, h3]; rfl)
    go_wp2_with (go_at_call 43; refine (within_any _ _ _ _).mono ?_; rintro e w' ⟨rfl, rfl⟩)
    go_ret3
    refine ⟨.slice none 0 0, ret_v3 (by rw [HG.out]), ?_, be2⟩
    rw [HG.out]; exact Own.nil_ _ _
  cases h4 : inB rds 0 500
  · have HG : Hid (R = ([], 0, 2)) := Lib.hid (by rw [HR.out]; unfold solveF; rw [H1.out, H2.out, h3, h4]; rfl)
    go_wp2_with (go_at_call 43; refine (within_any _ _ _ _).mono ?_; rintro e w' ⟨rfl, rfl⟩)
    go_ret3
    refine ⟨.slice none 0 0, ret_v3 (by rw [HG.out]), ?_, be2⟩
    rw [HG.out]; exact Own.nil_ _ _
  go_wp2_with (go_at_call 43; refine (within_any _ _ _ _).mono ?_; rintro e w' ⟨rfl, rfl⟩)
  have H3 := Lib.hid h3
  have H4 := Lib.hid h4
  obtain ⟨tol0, tol1⟩ := inB_iff.1 h3
  obtain ⟨rds0, rds1⟩ := inB_iff.1 h4
  clear h3 h4
  refine (C3.out _ be2).mono ?_
  rintro e w3 ⟨rfl, hb3⟩
  have k03 := cell_later hb3 k02
  have k13 := cell_later hb3 k12
  have be3 := be2.trans (hb3.mono be2.size)
  have bx3 := bx2.trans (hb3.mono bx2.size)
  cases h5 : sysB xs.length rs dr st
  · have HG : Hid (R = ([], 0, 7)) := Lib.hid (by rw [HR.out]; unfold solveF; rw [H1.out, H2.out, H3.out, H4.out, h5]; rfl)
    clear h5
    go_wp2_with fail
    go_ret3
    refine ⟨.slice none 0 0, ret_v3 (by rw [HG.out]), ?_, be3⟩
    rw [HG.out]; exact Own.nil_ _ _
  have H5 := Lib.hid h5
  clear h5 k02 k12 hb3 bx2
  go_wp2_with fail
  refine (C4.out _ be3).mono ?_
  rintro e w4 ⟨rfl, hb4⟩
  have k04 := cell_later hb4 k03
  have k14 := cell_later hb4 k13
  have be4 := be3.trans (hb4.mono be3.size)
  have bx4 := bx3.trans (hb4.mono bx3.size)
  cases h6 : hasFB xs.length fs
  · have HG : Hid (R = ([], 0, 7)) := Lib.hid (by rw [HR.out]; unfold solveF; rw [H1.out, H2.out, H3.out, H4.out, H5.out, h6]; rfl)
    clear h6
    go_wp2_with fail
    go_ret3
    refine ⟨.slice none 0 0, ret_v3 (by rw [HG.out]), ?_, be4⟩
    rw [HG.out]; exact Own.nil_ _ _
  have H6 := Lib.hid h6
  clear h6 k03 k13 hb4 bx3
  obtain ⟨N, rfl⟩ : ∃ N : Nat, J = (N : Int) := ⟨J.toNat, by have := (mineB_bd H1.out).1; omega⟩
  obtain ⟨⟨n1, n2⟩, nxx, _⟩ := mineB_bd H1.out
  have hN2 : N ≤ 16 := by omega
  have hx24 : xs.length ≤ 24 := by omega
  have HSY : Hid ((rs.length = xs.length ∧ ∀ i, i < xs.length → 1 ≤ rs.getD i 0 ∧ rs.getD i 0 ≤ 1000000) ∧ (dr.length = xs.length ∧ ∀ i, i < xs.length → -100000 ≤ dr.getD i 0 ∧ dr.getD i 0 ≤ 100000) ∧ (st.length = xs.length ∧ ∀ i, i < xs.length → -100000 ≤ st.getD i 0 ∧ st.getD i 0 ≤ 100000)) := Lib.hid (by
    have h := H5.out
    unfold sysB at h
    rw [Bool.and_eq_true, Bool.and_eq_true] at h
    exact ⟨lstN_iff.1 h.1, lstN_iff.1 h.2.1, lstN_iff.1 h.2.2⟩)
  have HFO : Hid (FansOk xs.length fs) := Lib.hid (fans_ok H2.out H6.out)
  have C6 := Lib.hid (balanced_any N A cp xs AS cs st w4 hN2 hx24 ((GI.out.below be4).more be4.size) ((GS.out.below be4).more be4.size) HSY.out.2.2.1 HSY.out.2.2.2)
  clear n1 n2 nxx
  go_wp2_with fail
  refine C6.out.mono ?_
  rintro e w5 ⟨rfl, hb5⟩
  have k05 := cell_later hb5 k04
  have k15 := cell_later hb5 k14
  have be5 := be4.trans (hb5.mono be4.size)
  have bx5 := bx4.trans (hb5.mono bx4.size)
  cases h7 : balB N xs st
  · have HG : Hid (R = ([], 0, 6)) := Lib.hid (by rw [HR.out]; unfold solveF; rw [H1.out, H2.out, H3.out, H4.out, H5.out, H6.out, Int.toNat_natCast, h7]; rfl)
    clear h7
    go_wp2_with fail
    go_ret3
    refine ⟨.slice none 0 0, ret_v3 (by rw [HG.out]), ?_, be5⟩
    rw [HG.out]; exact Own.nil_ _ _
  have HG : Hid (R = solveR rs dr fs (meshesF N xs) tol rds.toNat st) := Lib.hid (by rw [HR.out]; unfold solveF; rw [H1.out, H2.out, H3.out, H4.out, H5.out, H6.out, Int.toNat_natCast, h7]; rfl)
  have HMO := Lib.hid (meshes_ok hN2 hx24)
  have CM := Lib.hid (fun (W : World) (hb : Below w.heap.size w W) => meshes_any N A cp xs W ((GI.out.below hb).more hb.size) H1.out)
  clear h7 k04 k14 hb5 bx4 C6 HR H3 H4 H5 H6 C1 C2 C3 C4
  go_upto_region 9 with fail
  go_cut [17, 18] (fun s17 s18 wx => ∃ (AV : Option Addr) (cv : Nat) (AM : Option Addr) (cm : Nat), s17 = .slice AV xs.length cv ∧ s18 = .slice AM (meshesF N xs).length cm ∧ Sol w0 wx AV cv xs.length st AM (meshesF N xs))
  case first =>
    go_region_held3 (fun w' => w'.cell? ⟨w.heap.size, 0, none⟩ = some (.int .i64 (N : Int)) ∧ w'.cell? ⟨w.heap.size, 1, none⟩ = some (.slice A xs.length cp))
      (first
        | go_keep
        | exact ⟨cell_later hbc (by go_simp), cell_later hbc (by go_simp)⟩
        | exact ⟨cell_later hbm (by go_simp), cell_later hbm (by go_simp)⟩)
      (first
        | (go_at_call 63; refine (C5.out _ (by first | exact be5.drew | exact be5.drew.trans (hbm.mono be5.drew.size))).mono ?_; rintro e wc ⟨vf, rfl, hof, hbc⟩)
        | (go_at_call 93; refine (CM.out _ (by first | exact be5.drew | exact be5.drew.trans (hbc.mono be5.drew.size))).mono ?_; rintro e wm ⟨vm, vs, rfl, hom, hbm⟩))
    · obtain ⟨AV, cv, hv, -, -⟩ := hof.slice
      rw [HSY.out.2.2.1] at hv
      subst hv
      obtain ⟨AM, cm, rfl, hnl⟩ := hom.slice
      have b5 := bx5.drew
      have bc := b5.trans (hbc.mono b5.size)
      have bm := bc.trans (hbm.mono bc.size)
      have HSO : Hid (Sol w0 wm AV cv xs.length st AM (meshesF N xs)) := Lib.hid ⟨bm, (hof.later hbm).base (fun g hg => Nat.le_trans b5.size (World.ownsRow.lt hof g hg).1), NestA.new hnl (fun g hg => (World.ownsRow.lt hof g hg).2), HSY.out.2.2.1, HSY.out.2.2.2⟩
      clear hof hom hnl
      go_wp2_with fail
      go_meet
      case rel => exact ⟨AV, cv, AM, cm, rfl, rfl, HSO.out⟩
  case rest =>
    obtain ⟨AV, cv, AM, cm, rfl, rfl, hsol⟩ := hcut
    have HSOL := Lib.hid hsol
    have hml : (meshesF N xs).length ≤ 24 := HMO.out.few
    have hrl : rs.length ≤ 24 := by have := HSY.out.1.1; omega
    have hdl : dr.length ≤ 24 := by have := HSY.out.2.1.1; omega
    clear hsol k05 k15 be5 bx5 C5 CM
    generalize meshesF N xs = ms at *
    go_wp2_with fail
    go_loopw [19] (fun ss wr => ∃ (n : Nat) (fl : List Int), (n : Int) ≤ rds ∧ ss = .int .i64 n ∧ Sol w0 wr AV cv xs.length fl AM ms ∧ R = solveR rs dr fs ms tol (rds - n).toNat fl) (fun ss _ => (rds - intOf ss).toNat)
    case atStart => exact ⟨0, st, by omega, rfl, HSOL.out, by rw [HG.out]; simp⟩
    case round =>
      clear HSOL HG
      obtain ⟨n, fl, hn, rfl, hsol, hR⟩ := hrel
      have HRr := Lib.hid hR
      have hbw : Below w.heap.size w wr := be0.trans (hsol.below.mono be0.size)
      have hP := pushesOf_any xs.length AF cf fs AD cd dr AV cv fl wr.heap.size wr (Nat.le_refl _) ((GF.out.below hbw).more hbw.size) ((GD.out.below hbw).more hbw.size) hsol.ints HFO.out hx24 HSY.out.2.1.1 hsol.len HSY.out.2.1.2 hsol.bd
      rw [hsol.len] at hP
      have HP := Lib.hid hP
      have HSL := Lib.hid hsol
      clear hP hR hsol
      go_wp2_with fail
      refine HP.out.mono ?_
      rintro e w2 ⟨v2, rfl, ho2, hb2⟩
      obtain ⟨AP, cq, rfl, -, -⟩ := ho2.slice
      have hbw2 := hbw.trans (hb2.mono hbw.size)
      have HS2 := Lib.hid (HSL.out.later hb2)
      have hsys := sys_ok HFO.out HSY.out.1 HSY.out.2.1 HSL.out.len HSL.out.bd
      have hE := meshErrors_any xs.length AM cm ms AR cr rs AP cq (pushF fs fl dr) AV cv fl w2 HS2.out.nest.nest ((GR.out.below hbw2).more hbw2.size) ho2.ints HS2.out.ints hsys HMO.out hx24
      rw [HSL.out.len] at hE
      have HE := Lib.hid hE
      have HEB := Lib.hid (fun k hk => errsL_bd hsys HMO.out (k := k) hk)
      have hel : (errsL rs (pushF fs fl dr) fl ms).length ≤ 24 := by rw [errsL_length]; exact hml
      have HEL : Hid ((errsL rs (pushF fs fl dr) fl ms).length = ms.length) := Lib.hid (errsL_length _ _ _ _)
      have hpl : (pushF fs fl dr).length ≤ 24 := by rw [pushF_length]; exact hdl
      clear hE hsys ho2 HP
      go_wp2_with fail
      refine HE.out.mono ?_
      rintro e w3 ⟨v3, rfl, ho3, hb3⟩
      obtain ⟨AE, ce, rfl, hie, -⟩ := ho3.slice
      have hbw3 := hbw2.trans (hb3.mono hbw2.size)
      have HS3 := Lib.hid (HS2.out.later hb3)
      have JE := Lib.hid hie
      have HY1 := Lib.hid (fun (h : worstL (errsL rs (pushF fs fl dr) fl ms) ≤ tol) => HRr.out.trans (solveR_yes h _))
      have HY2 := Lib.hid (fun (h : tol < worstL (errsL rs (pushF fs fl dr) fl ms)) (hnr : (n : Int) = rds) => HRr.out.trans ((congrArg (fun x => solveR rs dr fs ms tol x fl) (show (rds - n).toNat = 0 by omega)).trans (solveR_full (Int.not_le.2 h))))
      have HY3 := Lib.hid (fun (h : tol < worstL (errsL rs (pushF fs fl dr) fl ms)) (hnr : (n : Int) < rds) (hp : passK rs dr fs ms fl = none) => HRr.out.trans ((congrArg (fun x => solveR rs dr fs ms tol x fl) (show (rds - n).toNat = (rds - (n + 1 : Nat)).toNat + 1 by omega)).trans (solveR_bad (Int.not_le.2 h) hp)))
      have HY4 := Lib.hid (fun (h : tol < worstL (errsL rs (pushF fs fl dr) fl ms)) (hnr : (n : Int) < rds) (fl' : List Int) (hp : passK rs dr fs ms fl = some fl') => HRr.out.trans ((congrArg (fun x => solveR rs dr fs ms tol x fl) (show (rds - n).toNat = (rds - (n + 1 : Nat)).toNat + 1 by omega)).trans (solveR_go (Int.not_le.2 h) hp)))
      clear ho3 hie HE HS2 HRr HSL
      generalize errsL rs (pushF fs fl dr) fl ms = es at *
      go_wp2_with fail
      go_loopw [20, 76] (fun u jj wx => ∃ k : Nat, k ≤ es.length ∧ jj = .int .i64 k ∧ u = .int .i64 (worstK es k) ∧ w3 = wx) (fun _ jj _ => es.length - (intOf jj).toNat)
      case atStart => exact ⟨0, Nat.zero_le _, rfl, rfl, rfl⟩
      case round =>
        obtain ⟨k, hk, rfl, rfl, rfl⟩ := hrel
        by_cases hlt : k < es.length
        · obtain ⟨ad, rfl, -, hc⟩ := JE.out.atD hlt
          have hx := HEB.out k (by have := HEL.out; omega)
          have HST : Hid (worstK es (k + 1) = mx (worstK es k) ((es.getD k 0).natAbs : Int)) := Lib.hid rfl
          have HA := Lib.hid (fun W => abs_any (es.getD k 0) W (by omega) (by omega))
          generalize worstK es k = m at *
          generalize ((es.getD k 0).natAbs : Int) = na at *
          generalize es.getD k 0 = x at *
          have j0 : (0 : Int) ≤ (k : Int) := by omega
          have j1 : (k : Int) < es.length := by omega
          go_wp2_with (go_at_call 96; refine (HA.out _).mono ?_; rintro e w' ⟨rfl, rfl⟩)
          all_goals go_roundw
          all_goals first
            | exact ⟨k + 1, by omega, by go_num, by rw [HST.out]; unfold mx; congr 1; split <;> omega, by first | trivial | rfl⟩
            | (simp [intOf]; omega)
        · obtain rfl : k = es.length := by omega
          have HW : Hid (worstL es = worstK es es.length) := Lib.hid rfl
          rw [HW.out] at HY1 HY2 HY3 HY4
          clear HW HEB JE
          generalize worstK es es.length = x at *
          by_cases hxt : x ≤ tol
          · have HZ := Lib.hid (HY1.out hxt)
            clear HY1 HY2 HY3 HY4
            go_wp2
            go_ret3
            refine ⟨_, ret_v3 (by rw [HZ.out]), ?_, hbw3⟩
            rw [HZ.out]
            exact HS3.out.own.base (fun g hg => by have := (World.ownsRow.lt HS3.out.own g hg).1; omega)
          by_cases hnr : (n : Int) = rds
          · have HZ := Lib.hid (HY2.out (by omega) hnr)
            have hnb : ((n : Int) == rds) = true := by rw [beq_iff_eq]; exact hnr
            clear HY1 HY2 HY3 HY4 hnr
            go_wp2
            go_ret3
            refine ⟨.slice none 0 0, ret_v3 (by rw [HZ.out]), ?_, hbw3⟩
            rw [HZ.out]; exact Own.nil_ _ _
          have hnb : ((n : Int) == rds) = false := by rw [beq_eq_false_iff_ne]; exact hnr
          have HZ3 := Lib.hid (HY3.out (by omega) (by omega))
          have HZ4 := Lib.hid (HY4.out (by omega) (by omega))
          clear HY1 HY2 HY3 HY4
          go_wp2_with fail
          go_loopw [98] (fun jj wx => ∃ (k : Nat) (fl' : List Int), k ≤ ms.length ∧ jj = .int .i64 k ∧ Sol w0 wx AV cv xs.length fl' AM ms ∧ passK rs dr fs (ms.drop k) fl' = passK rs dr fs ms fl) (fun jj _ => ms.length - (intOf jj).toNat)
          case atStart => exact ⟨0, fl, Nat.zero_le _, rfl, HS3.out, rfl⟩
          case round =>
            obtain ⟨k, fl', hk, rfl, hsol, hpass⟩ := hrel
            by_cases hlt : k < ms.length
            · obtain ⟨hwk, hw0, hw1⟩ := HMO.out.each k hlt
              have hnx : 0 < xs.length := by have := (hwk 0 hw0).2.1; omega
              obtain ⟨b, o, A', c', rfl, hc, hiw, hap⟩ := hsol.nest.at_ hlt
              obtain ⟨g, rfl, hg1, -⟩ := hsol.own.row (n := xs.length) hnx hsol.len
              have hbw4 : Below w.heap.size w wr := be0.trans (hsol.below.mono be0.size)
              have k0r := cell_later hsol.below K0.out
              have k1r := cell_later hsol.below K1.out
              have hP := pushesOf_any xs.length AF cf fs AD cd dr (some ⟨g, 0, none⟩) cv fl' wr.heap.size wr (Nat.le_refl _) ((GF.out.below hbw4).more hbw4.size) ((GD.out.below hbw4).more hbw4.size) hsol.ints HFO.out hx24 HSY.out.2.1.1 hsol.len HSY.out.2.1.2 hsol.bd
              rw [hsol.len] at hP
              have HP := Lib.hid hP
              have HSL := Lib.hid hsol
              have HIW := Lib.hid hiw
              have HAP := Lib.hid (fun ad (h : A' = some ad) (e : ad.block = g) => hap ad h (congrArg some e))
              have HWK := Lib.hid hwk
              have HQP := Lib.hid (passK_drop (rs := rs) (dr := dr) (fs := fs) (ms := ms) (fl := fl') hlt)
              have HPS := Lib.hid hpass
              have j0 : (0 : Int) ≤ (k : Int) := by omega
              have j1 : (k : Int) < ms.length := by omega
              clear hP hsol hiw hap hwk hpass
              generalize ms.getD k [] = wk at *
              go_wp2_with fail
              refine HP.out.mono ?_
              rintro e w4 ⟨v4, rfl, ho4, hb4⟩
              obtain ⟨AQ, cq', rfl, -, -⟩ := ho4.slice
              have hbw5 := hbw4.trans (hb4.mono hbw4.size)
              have HS4 := Lib.hid (HSL.out.later hb4)
              have hsys := sys_ok HFO.out HSY.out.1 HSY.out.2.1 HSL.out.len HSL.out.bd
              have hT := stepOf_any xs.length A' c' wk AR cr rs AQ cq' (pushF fs fl' dr) (some ⟨g, 0, none⟩) cv fl' w4.heap.size w4 ((HIW.out.below hb4).more hb4.size) ((GR.out.below hbw5).more hbw5.size) ho4.ints HS4.out.ints hsys HWK.out hx24 hw1 hw0
              rw [HSL.out.len] at hT
              have HT := Lib.hid hT
              have hqb := stepW_bd rs (pushF fs fl' dr) fl' wk
              have HIW4 := Lib.hid ((HIW.out.below hb4).more hb4.size)
              clear hT ho4 hsys HP HSL HIW
              generalize stepW rs (pushF fs fl' dr) fl' wk = q at *
              go_wp2_with fail
              refine HT.out.mono ?_
              rintro e w5 ⟨rfl, hb5⟩
              have hbw6 := hbw5.trans (hb5.mono hbw5.size)
              have HS5 := Lib.hid (HS4.out.later hb5)
              obtain ⟨g', hge, hg2, hrow⟩ := HS5.out.own.row (n := xs.length) hnx HS5.out.len
              injection hge with hge
              injection hge with hge
              subst hge
              have hA := addAlong_any xs.length g cv w0.heap.size fl' A' c' wk q w5.heap.size w5 hrow HS5.out.len ((HIW4.out.below hb5).more hb5.size) HAP.out HS5.out.bd hqb HWK.out hx24 hw1
              have HA := Lib.hid hA
              clear hA hrow HS4 HT HIW4
              go_wp2_with fail
              refine HA.out.mono ?_
              rintro e w6 ⟨rfl, hrow6, hg6⟩
              have hab := addK_bd HS5.out.len HS5.out.bd hqb HWK.out wk.length (Nat.le_refl _)
              have hal : (addW fl' wk q).length = xs.length := (addK_length _ _ _ _).trans HS5.out.len
              have hfit : Fits (addW fl' wk q) := fits_of hal (fun i hi => by have h := hab i hi; unfold addW; omega)
              have hbg6 : Below w0.heap.size w0 w6 := HS5.out.below.grown hg6 HS5.out.below.size (fun j hj => by injection hj with hj; omega)
              have hbw7 : Below w.heap.size w w6 := be0.trans (hbg6.mono be0.size)
              have k06 := cell_later hbg6 K0.out
              have k16 := cell_later hbg6 K1.out
              have hH := hasFlows_any (N : Int) A cp xs (some ⟨g, 0, none⟩) cv (addW fl' wk q) w6.heap.size w6 (by omega) (by omega) (Own.of_row hrow6 hal hg1).ints (Nat.le_refl _) hfit
              rw [hal, decide_eq_true (rfl : (xs.length : Int) = xs.length), Bool.true_and] at hH
              have HH := Lib.hid hH
              have HST : Hid (flowsB (addW fl' wk q) = true → Sol w0 w6 (some ⟨g, 0, none⟩) cv xs.length (addW fl' wk q) (some ⟨b, o, none⟩) ms) := Lib.hid (fun h => HS5.out.stored hg6 hrow6 hal (fun i hi => by
                unfold flowsB at h
                rw [allIn_up, allUp_iff] at h
                exact inB_iff.1 (h i (by omega))))
              have HFB : Hid (flowsB (addW fl' wk q) = allIn (addW fl' wk q) (-100000) 100000) := Lib.hid rfl
              rw [HFB.out] at HQP HST
              clear hab hfit hH hrow6 hg6 HA HS5 hal HFB
              generalize addW fl' wk q = fl2 at *
              go_wp2_with fail
              refine HH.out.mono ?_
              rintro e w7 ⟨rfl, hb7⟩
              cases hfb : allIn fl2 (-100000) 100000
              · have HZ := Lib.hid (HZ3.out (by rw [← HPS.out, HQP.out, hfb]; rfl))
                clear hfb
                go_wp2_with fail
                go_ret3
                refine ⟨.slice none 0 0, ret_v3 (by rw [HZ.out]), ?_, hbw7.trans (hb7.mono hbw7.size)⟩
                rw [HZ.out]; exact Own.nil_ _ _
              · have HS7 := Lib.hid ((HST.out hfb).later hb7)
                have HP7 : Hid (passK rs dr fs (ms.drop (k + 1)) fl2 = passK rs dr fs ms fl) := Lib.hid (by rw [← HPS.out, HQP.out, hfb]; rfl)
                clear hfb
                go_wp2_with fail
                go_roundw
                case rel => exact ⟨k + 1, fl2, by omega, by go_num, HS7.out, HP7.out⟩
                case measure => simp [intOf]; omega
            · obtain rfl : k = ms.length := by omega
              have HZ := Lib.hid (HZ4.out fl' (by rw [← hpass, passK_end]))
              have HSX := Lib.hid hsol
              clear hsol hpass
              go_wp2_with fail
              go_roundw
              case rel => exact ⟨n + 1, fl', by omega, by go_num, HSX.out, HZ.out⟩
              case measure => simp [intOf]; omega
end Go.Proofs.YtejkoicgbgoiaaaGreat

/- Flows: flows whose meshes have small errors, by the reference. Conditions: the facts on memory and on lengths that each theorem names. -/
namespace Go.Proofs.YtejkoicgbgoiaaaGreat
open Go.RowKit
open Pl
/-- What is known of a network, when its flows are solved. -/
structure NetOk (N : Nat) (xs : List Aw) (rs : List Int) (fs : List Fa) (dr st : List Int) : Prop where
  mine : mineB (N : Int) xs = true
  fans : FansOk xs.length fs
  res : rs.length = xs.length ∧ ∀ i, i < xs.length → 1 ≤ rs.getD i 0 ∧ rs.getD i 0 ≤ 1000000
  dra : dr.length = xs.length ∧ ∀ i, i < xs.length → -100000 ≤ dr.getD i 0 ∧ dr.getD i 0 ≤ 100000
  sta : st.length = xs.length ∧ ∀ i, i < xs.length → -100000 ≤ st.getD i 0 ∧ st.getD i 0 ≤ 100000
set_option maxRecDepth 100000 in
set_option maxHeartbeats 6400000 in
theorem l07Solve_any (bm om : Nat) (N : Nat) (A : Option Addr) (cp : Nat) (xs : List Aw) (AR : Option Addr) (cr : Nat) (rs : List Int) (AF : Option Addr) (cf : Nat) (fs : List Fa) (AD : Option Addr) (cd : Nat) (dr : List Int) (AS : Option Addr) (cs : Nat) (st : List Int) (tol rds : Int) (w : World) (hnet : NetOk N xs rs fs dr st) (_ : 0 ≤ tol) (_ : tol ≤ 100000) (rds0 : 0 ≤ rds) (rds1 : rds ≤ 500) (hI : Recs encA 7 w.heap.size w A xs) (hR : Ints w.heap.size w AR rs) (hF : Fns w.heap.size w AF fs) (hD : Ints w.heap.size w AD dr) (hS : Ints w.heap.size w AS st)
    (m0 : w.cell? ⟨bm, om, none⟩ = some (.int .i64 (N : Int))) (mm : w.cell? ⟨bm, om + 1, none⟩ = some (.slice A xs.length cp)) :
    Calls Tryz.prog 81 #[.pointer (some ⟨bm, om, none⟩), .slice AR rs.length cr, .slice AF fs.length cf, .slice AD dr.length cd, .slice AS st.length cs, .int .i64 tol, .int .i64 rds] w fun e w' => ∃ u, e = .returned (.tuple #[u, .int .i64 (solveR rs dr fs (meshesF N xs) tol rds.toNat st).2.1, .int .i64 (solveR rs dr fs (meshesF N xs) tol rds.toNat st).2.2]) ∧ Own w.heap.size w' u (solveR rs dr fs (meshesF N xs) tol rds.toNat st).1 ∧ Below w.heap.size w w' := by
  obtain ⟨R, hRR⟩ : ∃ R, R = solveR rs dr fs (meshesF N xs) tol rds.toNat st := ⟨_, rfl⟩
  rw [← hRR]
  have HG := Lib.hid hRR
  obtain ⟨⟨n1, n2⟩, nxx, _⟩ := mineB_bd hnet.mine
  have hN2 : N ≤ 16 := by omega
  have hx24 : xs.length ≤ 24 := by omega
  have HFO := Lib.hid hnet.fans
  have HSY := Lib.hid (And.intro hnet.res (And.intro hnet.dra hnet.sta))
  have HMO := Lib.hid (meshes_ok hN2 hx24)
  have CM := Lib.hid (l04Meshes_any bm om N A cp xs w hI hnet.mine m0 mm)
  have GR := Lib.hid hR
  have GF := Lib.hid hF
  have GD := Lib.hid hD
  have GS := Lib.hid hS
  have hml : (meshesF N xs).length ≤ 24 := HMO.out.few
  have hrl : rs.length ≤ 24 := by have := HSY.out.1.1; omega
  have hdl : dr.length ≤ 24 := by have := HSY.out.2.1.1; omega
  have hsl : st.length ≤ 24 := by have := HSY.out.2.2.1; omega
  have hbm : bm < w.heap.size := World.block_lt_of_cell? _ _ m0
  have K1 := Lib.hid mm
  clear hI hR hF hD hS hRR hnet n1 n2 nxx m0 mm
  go_enter Tryz.func81, Tryz.ntmps81
  go_wp2_with fail
  refine CM.out.mono ?_
  rintro e wm ⟨vm, vs, rfl, hom, hbm1⟩
  obtain ⟨AM, cm, rfl, hnl⟩ := hom.slice
  have CO := Lib.hid (l00Own_gen AS cs st w.heap.size wm (by omega) (GS.out.below hbm1))
  have HOM := Lib.hid hom
  clear hnl hom CM
  go_wp2_with fail
  refine CO.out.mono ?_
  rintro e wc ⟨vf, rfl, hof, hbc⟩
  obtain ⟨AV, cv, hv, -, -⟩ := hof.slice
  rw [HSY.out.2.2.1] at hv
  subst hv
  have HSOL : Hid (Sol w wc AV cv xs.length st AM (meshesF N xs)) := Lib.hid ⟨hbm1.trans (hbc.mono hbm1.size), hof.base (fun g hg => Nat.le_trans hbm1.size (World.ownsRow.lt hof g hg).1), OwnN.nestA HOM.out hbc (fun g hg => (World.ownsRow.lt hof g hg).1), HSY.out.2.2.1, HSY.out.2.2.2⟩
  clear hof HOM CO hbc
  generalize meshesF N xs = ms at *
  go_wp2_with fail
  go_loopw [19] (fun ss wr => ∃ (n : Nat) (fl : List Int), (n : Int) ≤ rds ∧ ss = .int .i64 n ∧ Sol w wr AV cv xs.length fl AM ms ∧ R = solveR rs dr fs ms tol (rds - n).toNat fl) (fun ss _ => (rds - intOf ss).toNat)
  case atStart => exact ⟨0, st, by omega, rfl, HSOL.out, by rw [HG.out]; simp⟩
  case round =>
    clear HSOL HG
    obtain ⟨n, fl, hn, rfl, hsol, hR⟩ := hrel
    have HRr := Lib.hid hR
    have hbw : Below w.heap.size w wr := hsol.below
    have hP := l07Pushes_any xs.length AF cf fs AD cd dr AV cv fl wr.heap.size wr (Nat.le_refl _) ((GF.out.below hbw).more hbw.size) ((GD.out.below hbw).more hbw.size) hsol.ints HFO.out hx24 HSY.out.2.1.1 hsol.len HSY.out.2.1.2 hsol.bd
    rw [hsol.len] at hP
    have HP := Lib.hid hP
    have HSL := Lib.hid hsol
    clear hP hR hsol
    go_wp2_with fail
    refine HP.out.mono ?_
    rintro e w2 ⟨v2, rfl, ho2, hb2⟩
    obtain ⟨AP, cq, rfl, -, -⟩ := ho2.slice
    have hbw2 := hbw.trans (hb2.mono hbw.size)
    have HS2 := Lib.hid (HSL.out.later hb2)
    have hsys := sys_ok HFO.out HSY.out.1 HSY.out.2.1 HSL.out.len HSL.out.bd
    have hE := l07Errors_any xs.length AM cm ms AR cr rs AP cq (pushF fs fl dr) AV cv fl w2 HS2.out.nest.nest ((GR.out.below hbw2).more hbw2.size) ho2.ints HS2.out.ints hsys HMO.out hx24
    rw [HSL.out.len] at hE
    have HE := Lib.hid hE
    have HEB := Lib.hid (fun k hk => errsL_bd hsys HMO.out (k := k) hk)
    have hel : (errsL rs (pushF fs fl dr) fl ms).length ≤ 24 := by rw [errsL_length]; exact hml
    have HEL : Hid ((errsL rs (pushF fs fl dr) fl ms).length = ms.length) := Lib.hid (errsL_length _ _ _ _)
    have hpl : (pushF fs fl dr).length ≤ 24 := by rw [pushF_length]; exact hdl
    clear hE hsys ho2 HP
    go_wp2_with fail
    refine HE.out.mono ?_
    rintro e w3 ⟨v3, rfl, ho3, hb3⟩
    obtain ⟨AE, ce, rfl, hie, -⟩ := ho3.slice
    have hbw3 := hbw2.trans (hb3.mono hbw2.size)
    have HS3 := Lib.hid (HS2.out.later hb3)
    have HWO := Lib.hid (l07Worst_any AE ce _ _ w3 (by omega) hie (fun k hk => HEB.out k (by rw [← HEL.out]; exact hk)))
    have HY1 := Lib.hid (fun (h : worstL (errsL rs (pushF fs fl dr) fl ms) ≤ tol) => HRr.out.trans (solveR_yes h _))
    have HY2 := Lib.hid (fun (h : tol < worstL (errsL rs (pushF fs fl dr) fl ms)) (hnr : (n : Int) = rds) => HRr.out.trans ((congrArg (fun x => solveR rs dr fs ms tol x fl) (show (rds - n).toNat = 0 by omega)).trans (solveR_full (Int.not_le.2 h))))
    have HY3 := Lib.hid (fun (h : tol < worstL (errsL rs (pushF fs fl dr) fl ms)) (hnr : (n : Int) < rds) (hp : passK rs dr fs ms fl = none) => HRr.out.trans ((congrArg (fun x => solveR rs dr fs ms tol x fl) (show (rds - n).toNat = (rds - (n + 1 : Nat)).toNat + 1 by omega)).trans (solveR_bad (Int.not_le.2 h) hp)))
    have HY4 := Lib.hid (fun (h : tol < worstL (errsL rs (pushF fs fl dr) fl ms)) (hnr : (n : Int) < rds) (fl' : List Int) (hp : passK rs dr fs ms fl = some fl') => HRr.out.trans ((congrArg (fun x => solveR rs dr fs ms tol x fl) (show (rds - n).toNat = (rds - (n + 1 : Nat)).toNat + 1 by omega)).trans (solveR_go (Int.not_le.2 h) hp)))
    clear ho3 hie HE HS2 HRr HSL HEB
    generalize worstL (errsL rs (pushF fs fl dr) fl ms) = x at *
    go_wp2_with fail
    refine HWO.out.mono ?_
    rintro e w3' ⟨rfl, rfl⟩
    by_cases hxt : x ≤ tol
    · have HZ := Lib.hid (HY1.out hxt)
      clear HY1 HY2 HY3 HY4
      go_wp2
      go_ret3
      refine ⟨_, ret_v3 (by rw [HZ.out]), ?_, hbw3⟩
      rw [HZ.out]
      exact HS3.out.own
    by_cases hnr : (n : Int) = rds
    · have HZ := Lib.hid (HY2.out (by omega) hnr)
      have hnb : ((n : Int) == rds) = true := by rw [beq_iff_eq]; exact hnr
      clear HY1 HY2 HY3 HY4 hnr
      go_wp2
      go_ret3
      refine ⟨.slice none 0 0, ret_v3 (by rw [HZ.out]), ?_, hbw3⟩
      rw [HZ.out]; exact Own.nil_ _ _
    have hnb : ((n : Int) == rds) = false := by rw [beq_eq_false_iff_ne]; exact hnr
    have HZ3 := Lib.hid (HY3.out (by omega) (by omega))
    have HZ4 := Lib.hid (HY4.out (by omega) (by omega))
    clear HY1 HY2 HY3 HY4 HWO
    go_wp2_with fail
    go_loopw [21] (fun jj wx => ∃ (k : Nat) (fl' : List Int), k ≤ ms.length ∧ jj = .int .i64 k ∧ Sol w wx AV cv xs.length fl' AM ms ∧ passK rs dr fs (ms.drop k) fl' = passK rs dr fs ms fl) (fun jj _ => ms.length - (intOf jj).toNat)
    case atStart => exact ⟨0, fl, Nat.zero_le _, rfl, HS3.out, rfl⟩
    case round =>
      obtain ⟨k, fl', hk, rfl, hsol, hpass⟩ := hrel
      by_cases hlt : k < ms.length
      · obtain ⟨hwk, hw0, hw1⟩ := HMO.out.each k hlt
        have hnx : 0 < xs.length := by have := (hwk 0 hw0).2.1; omega
        obtain ⟨b, o, A', c', rfl, hc, hiw, hap⟩ := hsol.nest.at_ hlt
        obtain ⟨g, rfl, hg1, -⟩ := hsol.own.row (n := xs.length) hnx hsol.len
        have hbw4 : Below w.heap.size w wr := hsol.below
        have HP := Lib.hid (fun (W : World) (hW : Below wr.heap.size wr W) => by
          have hP := l07Pushes_any xs.length AF cf fs AD cd dr (some ⟨g, 0, none⟩) cv fl' W.heap.size W (Nat.le_refl _) (((GF.out.below hbw4).more hbw4.size).later hW) (((GD.out.below hbw4).more hbw4.size |>.below hW).more hW.size) ((hsol.ints.below hW).more hW.size) HFO.out hx24 HSY.out.2.1.1 hsol.len HSY.out.2.1.2 hsol.bd
          rw [hsol.len] at hP
          exact hP)
        have HSL := Lib.hid hsol
        have HIW := Lib.hid hiw
        have HAP := Lib.hid (fun ad (h : A' = some ad) (e : ad.block = g) => hap ad h (congrArg some e))
        have HWK := Lib.hid hwk
        have HQP := Lib.hid (passK_drop (rs := rs) (dr := dr) (fs := fs) (ms := ms) (fl := fl') hlt)
        have HPS := Lib.hid hpass
        have j0 : (0 : Int) ≤ (k : Int) := by omega
        have j1 : (k : Int) < ms.length := by omega
        have hsys := sys_ok HFO.out HSY.out.1 HSY.out.2.1 hsol.len hsol.bd
        have HT := Lib.hid (fun (W : World) (AQ : Option Addr) (cq' : Nat) (hW : Below wr.heap.size wr W) (hQ : Ints W.heap.size W AQ (pushF fs fl' dr)) => by
          have hT := l07Step_any xs.length A' c' (ms.getD k []) AR cr rs AQ cq' (pushF fs fl' dr) (some ⟨g, 0, none⟩) cv fl' W.heap.size W ((hiw.below hW).more hW.size) (((GR.out.below hbw4).more hbw4.size |>.below hW).more hW.size) hQ ((hsol.ints.below hW).more hW.size) hsys hwk hx24 hw1 hw0
          rw [hsol.len] at hT
          exact hT)
        have hqb := stepW_bd rs (pushF fs fl' dr) fl' (ms.getD k [])
        clear hsol hiw hap hwk hpass hsys
        generalize ms.getD k [] = wk at *
        generalize stepW rs (pushF fs fl' dr) fl' wk = q at *
        go_wp2_with fail
        go_region_held3 (fun w' => w'.cell? ⟨b, o + k, none⟩ = some (.slice A' wk.length c'))
          (first
            | go_keep
            | exact cell_later hb45 hc)
          (first
            | (go_at_call 112; refine (HP.out _ (by first | exact (Below.refl _ _).drew | exact Below.refl _ _)).mono ?_; rintro e w4 ⟨v4, rfl, ho4, hb4⟩; obtain ⟨AQ, cq', rfl, hiq, -⟩ := ho4.slice; have hb45 : Below wr.heap.size wr w4 := (Below.refl wr.heap.size wr).drew.trans (hb4.mono (Nat.le_refl _)))
            | (go_at_call 113; refine (HT.out _ _ _ hb45 hiq).mono ?_; rintro e w5 ⟨rfl, nd, rfl⟩))
        have hbz : Below wr.heap.size wr (w4.drewN nd) := below_drewN hb45 nd
        have hc5 := cell_later hbz hc
        have HS5 := Lib.hid (HSL.out.later hbz)
        have HIW5 := Lib.hid ((HIW.out.below hbz).more hbz.size)
        clear hb45 hb4 ho4 hiq HT HP HSL HIW hc hbz
        generalize w4.drewN nd = w5 at *
        obtain ⟨g', hge, hg2, hrow⟩ := HS5.out.own.row (n := xs.length) hnx HS5.out.len
        injection hge with hge
        injection hge with hge
        subst hge
        have hA := l07Add_any xs.length g cv w.heap.size fl' A' c' wk q w5.heap.size w5 hrow HS5.out.len HIW5.out HAP.out HS5.out.bd hqb HWK.out hx24 hw1
        have HA := Lib.hid hA
        clear hA hrow HIW5
        go_wp2_with fail
        refine HA.out.mono ?_
        rintro e w6 ⟨rfl, hrow6, hg6⟩
        have hab := addK_bd HS5.out.len HS5.out.bd hqb HWK.out wk.length (Nat.le_refl _)
        have hal : (addW fl' wk q).length = xs.length := (addK_length _ _ _ _).trans HS5.out.len
        have hbg6 : Below w.heap.size w w6 := HS5.out.below.grown hg6 HS5.out.below.size (fun j hj => by injection hj with hj; omega)
        have k16 := cell_later hbg6 K1.out
        have hH := l07Flows_any bm om A cp xs.length (some ⟨g, 0, none⟩) cv (addW fl' wk q) w6.heap.size w6 (by omega) (by omega) (Own.of_row hrow6 hal hg1).ints k16
        rw [hal, decide_eq_true (rfl : (xs.length : Int) = xs.length), Bool.true_and] at hH
        have HH := Lib.hid hH
        have HST : Hid (flowsB (addW fl' wk q) = true → Sol w w6 (some ⟨g, 0, none⟩) cv xs.length (addW fl' wk q) (some ⟨b, o, none⟩) ms) := Lib.hid (fun h => HS5.out.stored hg6 hrow6 hal (fun i hi => by
          unfold flowsB at h
          rw [allIn_up, allUp_iff] at h
          exact inB_iff.1 (h i (by omega))))
        have HFB : Hid (flowsB (addW fl' wk q) = allIn (addW fl' wk q) (-100000) 100000) := Lib.hid rfl
        rw [HFB.out] at HQP HST
        clear hab hH hrow6 hg6 HA HS5 hal HFB
        generalize addW fl' wk q = fl2 at *
        go_wp2_with fail
        refine HH.out.mono ?_
        rintro e w7 ⟨rfl, nd7, rfl⟩
        cases hfb : allIn fl2 (-100000) 100000
        · have HZ := Lib.hid (HZ3.out (by rw [← HPS.out, HQP.out, hfb]; rfl))
          clear hfb
          go_wp2_with fail
          go_ret3
          refine ⟨.slice none 0 0, ret_v3 (by rw [HZ.out]), ?_, below_drewN hbg6 _⟩
          rw [HZ.out]; exact Own.nil_ _ _
        · have HS7 := Lib.hid ((HST.out hfb).later (below_drewN (Below.refl _ _) nd7))
          have HP7 : Hid (passK rs dr fs (ms.drop (k + 1)) fl2 = passK rs dr fs ms fl) := Lib.hid (by rw [← HPS.out, HQP.out, hfb]; rfl)
          clear hfb
          go_wp2_with fail
          go_roundw
          case rel => exact ⟨k + 1, fl2, by omega, by go_num, HS7.out, HP7.out⟩
          case measure => simp [intOf]; omega
      · obtain rfl : k = ms.length := by omega
        have HZ := Lib.hid (HZ4.out fl' (by rw [← hpass, passK_end]))
        have HSX := Lib.hid hsol
        clear hsol hpass
        go_wp2_with fail
        go_roundw
        case rel => exact ⟨n + 1, fl', by omega, by go_num, HSX.out, HZ.out⟩
        case measure => simp [intOf]; omega
set_option maxRecDepth 100000 in
set_option maxHeartbeats 6400000 in
theorem SolveFlows_s (J : Int) (A : Option Addr) (cp : Nat) (xs : List Aw) (AR : Option Addr) (cr : Nat) (rs : List Int) (AF : Option Addr) (cf : Nat) (fs : List Fa) (AD : Option Addr) (cd : Nat) (dr : List Int) (AS : Option Addr) (cs : Nat) (st : List Int) (tol rds : Int) (w : World) (hxl : (xs.length : Int) ≤ 1048576) (hrl : rs.length ≤ 1048576) (hfl : fs.length ≤ 1048576) (hdl : dr.length ≤ 1048576) (hsl : st.length ≤ 1048576) (fX : FitsA xs) (fF : FitsF fs) (lF : FansLen fs) (hI : Recs encA 7 w.heap.size w A xs) (hR : Ints w.heap.size w AR rs) (hF : Fns w.heap.size w AF fs) (hD : Ints w.heap.size w AD dr) (hS : Ints w.heap.size w AS st) :
    Calls Tryz.prog 89 #[.agg #[.int .i64 J, .slice A xs.length cp], .slice AR rs.length cr, .slice AF fs.length cf, .slice AD dr.length cd, .slice AS st.length cs, .int .i64 tol, .int .i64 rds] w fun e w' => ∃ u, e = .returned (.tuple #[u, .int .i64 (solveF J xs rs fs dr st tol rds).2.1, .int .i64 (solveF J xs rs fs dr st tol rds).2.2]) ∧ Own w.heap.size w' u (solveF J xs rs fs dr st tol rds).1 ∧ Below w.heap.size w w' := by
  obtain ⟨R, hRR⟩ : ∃ R, R = solveF J xs rs fs dr st tol rds := ⟨_, rfl⟩
  rw [← hRR]
  have HR := Lib.hid hRR
  have be0 : Below w.heap.size w (w.alloc (.cells #[.int .i64 J, .slice A xs.length cp] 33)) := by go_grown
  have k0 : ((w.alloc (.cells #[.int .i64 J, .slice A xs.length cp] 33))).cell? ⟨w.heap.size, 0, none⟩ = some (.int .i64 J) := by go_simp
  have k1 : ((w.alloc (.cells #[.int .i64 J, .slice A xs.length cp] 33))).cell? ⟨w.heap.size, 1, none⟩ = some (.slice A xs.length cp) := by go_simp
  have GI := Lib.hid ((hI.below be0).more be0.size)
  have GR := Lib.hid ((hR.below be0).more be0.size)
  have GF := Lib.hid ((hF.below be0).more be0.size)
  have GD := Lib.hid ((hD.below be0).more be0.size)
  have GS := Lib.hid ((hS.below be0).more be0.size)
  have FX := Lib.hid fX
  have FF := Lib.hid fF
  have LF := Lib.hid lF
  clear hI hR hF hD hS fX fF lF hRR
  go_enter Tryz.func89, Tryz.ntmps89
  go_wp2_with fail
  generalize (w.alloc (.cells #[.int .i64 J, .slice A xs.length cp] 33)) = w0 at *
  have bd : ∀ n, Below w0.heap.size w0 (w0.drewN n) := fun n => below_drewN (Below.refl _ _) n
  have BD := Lib.hid bd
  have K0 := Lib.hid k0
  have K1 := Lib.hid k1
  clear bd
  refine (l04Ok_any w.heap.size 0 J A cp xs w0.heap.size _ (by omega) FX.out GI.out K0.out K1.out).mono ?_
  rintro e w1 ⟨rfl, d1, rfl⟩
  cases h1 : mineB J xs
  · have HG : Hid (R = ([], 0, 1)) := Lib.hid (by rw [HR.out]; unfold solveF; rw [h1]; rfl)
    clear h1
    go_wp2_with fail
    go_ret3
    refine ⟨.slice none 0 0, ret_v3 (by rw [HG.out]), ?_, below_drewN be0 _⟩
    rw [HG.out]; exact Own.nil_ _ _
  have H1 := Lib.hid h1
  clear h1
  go_wp2_with fail
  refine (l06List_any AF cf fs w0.heap.size _ (by omega) FF.out LF.out (GF.out.below (BD.out d1))).mono ?_
  rintro e w2 ⟨rfl, d2, rfl⟩
  cases h2 : fansB fs
  · have HG : Hid (R = ([], 0, 1)) := Lib.hid (by rw [HR.out]; unfold solveF; rw [H1.out, h2]; rfl)
    clear h2
    go_wp2_with fail
    go_ret3
    refine ⟨.slice none 0 0, ret_v3 (by rw [HG.out]), ?_, below_drewN be0 _⟩
    rw [HG.out]; exact Own.nil_ _ _
  have H2 := Lib.hid h2
  clear h2
  cases h3 : inB tol 0 100000
  · have HG : Hid (R = ([], 0, 2)) := Lib.hid (by rw [HR.out]; unfold solveF; rw [H1.out, H2.out, h3]; rfl)
    go_wp2_with (go_at_call 67; refine (l00In_any _ _ _ _).mono ?_; rintro e w' ⟨rfl, rfl⟩)
    go_ret3
    refine ⟨.slice none 0 0, ret_v3 (by rw [HG.out]), ?_, below_drewN be0 _⟩
    rw [HG.out]; exact Own.nil_ _ _
  cases h4 : inB rds 0 500
  · have HG : Hid (R = ([], 0, 2)) := Lib.hid (by rw [HR.out]; unfold solveF; rw [H1.out, H2.out, h3, h4]; rfl)
    go_wp2_with (go_at_call 67; refine (l00In_any _ _ _ _).mono ?_; rintro e w' ⟨rfl, rfl⟩)
    go_ret3
    refine ⟨.slice none 0 0, ret_v3 (by rw [HG.out]), ?_, below_drewN be0 _⟩
    rw [HG.out]; exact Own.nil_ _ _
  go_wp2_with (go_at_call 67; refine (l00In_any _ _ _ _).mono ?_; rintro e w' ⟨rfl, rfl⟩)
  have H3 := Lib.hid h3
  have H4 := Lib.hid h4
  obtain ⟨tol0, tol1⟩ := inB_iff.1 h3
  obtain ⟨rds0, rds1⟩ := inB_iff.1 h4
  clear h3 h4
  have HSE : Hid (sysB xs.length rs dr st = (lstN xs.length rs 1 1000000 && (lstN xs.length dr (-100000) 100000 && lstN xs.length st (-100000) 100000))) := Lib.hid rfl
  have HL1 : Hid (lstN xs.length rs 1 1000000 = (decide ((rs.length : Int) = xs.length) && allIn rs 1 1000000)) := Lib.hid rfl
  have HL2 : Hid (lstN xs.length dr (-100000) 100000 = (decide ((dr.length : Int) = xs.length) && allIn dr (-100000) 100000)) := Lib.hid rfl
  have HL3 : Hid (lstN xs.length st (-100000) 100000 = (decide ((st.length : Int) = xs.length) && allIn st (-100000) 100000)) := Lib.hid rfl
  have HF7 : Hid ((sysB xs.length rs dr st && hasFB xs.length fs) = false → R = ([], 0, 7)) := Lib.hid (fun h => by rw [HR.out]; unfold solveF; rw [H1.out, H2.out, H3.out, H4.out, h]; rfl)
  refine (l07Res_any w.heap.size 0 A cp xs.length AR cr rs w0.heap.size _ (by omega) (by omega) (GR.out.below (BD.out _)) (cell_later (BD.out _) K1.out)).mono ?_
  rintro e w3 ⟨rfl, d3, rfl⟩
  rw [← HL1.out]
  cases h5 : lstN xs.length rs 1 1000000
  · have HG := Lib.hid (HF7.out (by rw [HSE.out, h5]; rfl))
    clear h5
    go_wp2_with fail
    go_ret3
    refine ⟨.slice none 0 0, ret_v3 (by rw [HG.out]), ?_, below_drewN be0 _⟩
    rw [HG.out]; exact Own.nil_ _ _
  have H5 := Lib.hid h5
  clear h5
  go_wp2_with fail
  refine (l07Fans_any w.heap.size 0 A cp xs.length AF cf fs w0.heap.size _ (by omega) (fans_aw H2.out) (by omega) (GF.out.below (BD.out _)) (cell_later (BD.out _) K1.out)).mono ?_
  rintro e w4 ⟨rfl, d4, rfl⟩
  cases h6 : hasFB xs.length fs
  · have HG := Lib.hid (HF7.out (by rw [h6, Bool.and_false]))
    clear h6
    go_wp2_with fail
    go_ret3
    refine ⟨.slice none 0 0, ret_v3 (by rw [HG.out]), ?_, below_drewN be0 _⟩
    rw [HG.out]; exact Own.nil_ _ _
  have H6 := Lib.hid h6
  clear h6
  go_wp2_with fail
  refine (l07Pressures_any w.heap.size 0 A cp xs.length AD cd dr w0.heap.size _ (by omega) (by omega) (GD.out.below (BD.out _)) (cell_later (BD.out _) K1.out)).mono ?_
  rintro e w5 ⟨rfl, d5, rfl⟩
  rw [← HL2.out]
  cases h7 : lstN xs.length dr (-100000) 100000
  · have HG := Lib.hid (HF7.out (by rw [HSE.out, H5.out, h7]; rfl))
    clear h7
    go_wp2_with fail
    go_ret3
    refine ⟨.slice none 0 0, ret_v3 (by rw [HG.out]), ?_, below_drewN be0 _⟩
    rw [HG.out]; exact Own.nil_ _ _
  have H7 := Lib.hid h7
  clear h7
  go_wp2_with fail
  refine (l07Flows_any w.heap.size 0 A cp xs.length AS cs st w0.heap.size _ (by omega) (by omega) (GS.out.below (BD.out _)) (cell_later (BD.out _) K1.out)).mono ?_
  rintro e w6 ⟨rfl, d6, rfl⟩
  rw [← HL3.out]
  cases h8 : lstN xs.length st (-100000) 100000
  · have HG := Lib.hid (HF7.out (by rw [HSE.out, H5.out, H7.out, h8]; rfl))
    clear h8
    go_wp2_with fail
    go_ret3
    refine ⟨.slice none 0 0, ret_v3 (by rw [HG.out]), ?_, below_drewN be0 _⟩
    rw [HG.out]; exact Own.nil_ _ _
  have H8 := Lib.hid h8
  clear h8
  have HSB : Hid (sysB xs.length rs dr st = true) := Lib.hid (by rw [HSE.out, H5.out, H7.out, H8.out]; rfl)
  obtain ⟨N, rfl⟩ : ∃ N : Nat, J = (N : Int) := ⟨J.toNat, by have := (mineB_bd H1.out).1; omega⟩
  have HNET : Hid (NetOk N xs rs fs dr st) := Lib.hid ⟨H1.out, fans_ok H2.out H6.out, lstN_iff.1 H5.out, lstN_iff.1 H7.out, lstN_iff.1 H8.out⟩
  obtain ⟨⟨n1, n2⟩, nxx, _⟩ := mineB_bd H1.out
  have HNE : Hid (∀ i, i < xs.length → (xs.getD i aNone).f ≠ (xs.getD i aNone).t) := Lib.hid (fun i hi => by
    obtain ⟨F, T, hF, hT, _, _, hne⟩ := mine_ends H1.out hi
    rw [hF, hT]; omega)
  go_wp2_with fail
  refine (l07Balanced_any w.heap.size 0 N A cp xs AS cs st w0.heap.size _ (by omega) (by omega) (GI.out.below (BD.out _)) (GS.out.below (BD.out _)) HNET.out.sta.1 HNET.out.sta.2 HNE.out (cell_later (BD.out _) K0.out) (cell_later (BD.out _) K1.out)).mono ?_
  rintro e w7 ⟨rfl, rfl⟩
  cases h9 : balB N xs st
  · have HG : Hid (R = ([], 0, 6)) := Lib.hid (by rw [HR.out]; unfold solveF; rw [H1.out, H2.out, H3.out, H4.out, HSB.out, H6.out, Int.toNat_natCast, h9]; rfl)
    clear h9
    go_wp2_with fail
    go_ret3
    refine ⟨.slice none 0 0, ret_v3 (by rw [HG.out]), ?_, below_drewN be0 _⟩
    rw [HG.out]; exact Own.nil_ _ _
  have HG : Hid (R = solveR rs dr fs (meshesF N xs) tol rds.toNat st) := Lib.hid (by rw [HR.out]; unfold solveF; rw [H1.out, H2.out, H3.out, H4.out, HSB.out, H6.out, Int.toNat_natCast, h9]; rfl)
  clear h9
  go_wp2_with fail
  refine (l07Solve_any w.heap.size 0 N A cp xs AR cr rs AF cf fs AD cd dr AS cs st tol rds _ HNET.out tol0 tol1 rds0 rds1 ((GI.out.below (BD.out _)).more (BD.out _).size) ((GR.out.below (BD.out _)).more (BD.out _).size) ((GF.out.below (BD.out _)).more (BD.out _).size) ((GD.out.below (BD.out _)).more (BD.out _).size) ((GS.out.below (BD.out _)).more (BD.out _).size) (cell_later (BD.out _) K0.out) (cell_later (BD.out _) K1.out)).mono ?_
  rw [← HG.out]
  rintro e w8 ⟨u, rfl, ho, hb8⟩
  have HO := Lib.hid ho
  clear ho
  go_wp2_with fail
  go_ret3
  exact ⟨u, rfl, HO.out.base (fun g hg => Nat.le_trans be0.size (World.ownsRow.lt HO.out g hg).1), (below_drewN be0 _).trans (hb8.mono be0.size)⟩
end Go.Proofs.YtejkoicgbgoiaaaGreat

/- Fires: the flows with a fire, by the program and by the reference. Conditions: the facts on memory and on lengths that each theorem names. -/
namespace Go.Proofs.YtejkoicgbgoiaaaGreat
open Go.RowKit
open Pl
/-- The code of what is asked of a fire. -/
noncomputable def baseF (J : Int) (xs : List Aw) (rs : List Int) (fs : List Fa) (dr st : List Int) (tol rds aw am : Int) : Int :=
  if (mineB J xs && fansB fs) = true then
    if (inB tol 0 100000 && (inB rds 0 500 && (inB aw 0 ((xs.length : Int) - 1) && inB am 0 100000))) = true then
      if ((sysB xs.length rs dr st && hasFB xs.length fs) && decide (dr.getD aw.toNat 0 + am ≤ 100000)) = true then 0 else 7
    else 2
  else 1
def moreF (dr : List Int) (aw am : Int) : List Int := dr.set aw.toNat (dr.getD aw.toNat 0 + am)
/-- The flows with a fire, the greatest error, a code. -/
noncomputable def fireF (J : Int) (xs : List Aw) (rs : List Int) (fs : List Fa) (dr st : List Int) (tol rds aw am : Int) : List Int × Int × Int :=
  if baseF J xs rs fs dr st tol rds aw am = 0 then solveF J xs rs fs (moreF dr aw am) st tol rds else ([], 0, baseF J xs rs fs dr st tol rds aw am)
theorem fireF_bad {J : Int} {xs : List Aw} {rs : List Int} {fs : List Fa} {dr st : List Int} {tol rds aw am c : Int} (h : baseF J xs rs fs dr st tol rds aw am = c) (hc : c ≠ 0) : fireF J xs rs fs dr st tol rds aw am = ([], 0, c) := by
  unfold fireF; rw [h, if_neg hc]
theorem more_ok {n : Nat} {dr : List Int} {a : Nat} {am : Int} (h : lstN n dr (-100000) 100000 = true) (ha : a < n) (h0 : 0 ≤ am) (h1 : dr.getD a 0 + am ≤ 100000) : lstN n (moreF dr (a : Int) am) (-100000) 100000 = true := by
  obtain ⟨h2, h3⟩ := lstN_iff.1 h
  unfold moreF
  rw [Int.toNat_natCast]
  refine lstN_iff.2 ⟨by rw [List.length_set]; exact h2, fun i hi => ?_⟩
  rw [getD_set _ _ _ _ (by omega)]
  have := h3 a ha
  have := h3 i hi
  split <;> omega
theorem fireF_solve {J : Int} {xs : List Aw} {rs : List Int} {fs : List Fa} {dr st : List Int} {tol rds am : Int} {a : Nat} (h1 : mineB J xs = true) (h2 : fansB fs = true) (h3 : inB tol 0 100000 = true) (h4 : inB rds 0 500 = true) (h5 : a < xs.length) (h6 : inB am 0 100000 = true)
    (h7 : lstN xs.length dr (-100000) 100000 = true) (h8 : dr.getD a 0 + am ≤ 100000) : fireF J xs rs fs dr st tol rds (a : Int) am = solveF J xs rs fs (moreF dr (a : Int) am) st tol rds := by
  have hm := more_ok h7 h5 (inB_iff.1 h6).1 h8
  have h5' : inB (a : Int) 0 ((xs.length : Int) - 1) = true := inB_iff.2 (by omega)
  have hb : baseF J xs rs fs dr st tol rds (a : Int) am = if (sysB xs.length rs dr st && hasFB xs.length fs) = true then 0 else 7 := by
    unfold baseF
    rw [h1, h2, h3, h4, h5', h6, Int.toNat_natCast, decide_eq_true h8]
    simp only [Bool.and_self, Bool.and_true, if_true]
  unfold fireF
  rw [hb]
  by_cases h : (sysB xs.length rs dr st && hasFB xs.length fs) = true
  · rw [if_pos h, if_pos rfl]
  · rw [if_neg h, if_neg (by omega)]
    have e : (sysB xs.length rs (moreF dr (a : Int) am) st && hasFB xs.length fs) = false := by
      have : (sysB xs.length rs dr st && hasFB xs.length fs) = (sysB xs.length rs (moreF dr (a : Int) am) st && hasFB xs.length fs) := by
        unfold sysB; rw [h7, hm]
      rw [← this]
      simpa using h
    unfold solveF
    rw [h1, h2, h3, h4, e]
    rfl
set_option maxRecDepth 100000 in
set_option maxHeartbeats 6400000 in
theorem FlowsWithFire_i (J : Int) (A : Option Addr) (cp : Nat) (xs : List Aw) (AR : Option Addr) (cr : Nat) (rs : List Int) (AF : Option Addr) (cf : Nat) (fs : List Fa) (AD : Option Addr) (cd : Nat) (dr : List Int) (AS : Option Addr) (cs : Nat) (st : List Int) (tol rds : Int) (aw am : Int) (w : World) (hxl : (xs.length : Int) ≤ 1048576) (hrl : rs.length ≤ 1048576) (hfl : fs.length ≤ 1048576) (hdl : dr.length ≤ 1048576) (hsl : st.length ≤ 1048576) (fX : FitsA xs) (fR : Fits rs) (fF : FitsF fs) (lF : FansLen fs) (fD : Fits dr) (fS : Fits st) (hI : Recs encA 7 w.heap.size w A xs) (hR : Ints w.heap.size w AR rs) (hF : Fns w.heap.size w AF fs) (hD : Ints w.heap.size w AD dr) (hS : Ints w.heap.size w AS st) :
    Calls Tryz.prog 33 #[.agg #[.int .i64 J, .slice A xs.length cp], .slice AR rs.length cr, .slice AF fs.length cf, .slice AD dr.length cd, .slice AS st.length cs, .int .i64 tol, .int .i64 rds, .int .i64 aw, .int .i64 am] w fun e w' => ∃ u, e = .returned (.tuple #[u, .int .i64 (fireF J xs rs fs dr st tol rds aw am).2.1, .int .i64 (fireF J xs rs fs dr st tol rds aw am).2.2]) ∧ Own w.heap.size w' u (fireF J xs rs fs dr st tol rds aw am).1 ∧ Below w.heap.size w w' := by
  obtain ⟨R, hRR⟩ : ∃ R, R = fireF J xs rs fs dr st tol rds aw am := ⟨_, rfl⟩
  rw [← hRR]
  have HR := Lib.hid hRR
  have C1 := Lib.hid (fun (W : World) (hb : Below w.heap.size w W) => ValidMine_i J A cp xs w.heap.size W (by omega) fX (hI.below hb) hb.size)
  have C2 := Lib.hid (fun (W : World) (hb : Below w.heap.size w W) => ValidFans_i AF cf fs w.heap.size W (by omega) fF lF (hF.below hb) hb.size)
  have C3 := Lib.hid (fun (W : World) (hb : Below w.heap.size w W) => hasList_any J A cp xs AD cd dr (-100000) 100000 w.heap.size W (by omega) (by omega) (hD.below hb) hb.size fD)
  have C5 := Lib.hid (fun (W : World) (hb : Below w.heap.size w W) => Clone_any AD cd dr w.heap.size W hdl (hD.below hb))
  have GD := Lib.hid hD
  have C6 := Lib.hid (fun (AD' : Option Addr) (cd' : Nat) (dr' : List Int) (W : World) (hb : Below w.heap.size w W) (h1 : dr'.length ≤ 1048576) (h2 : Fits dr') (h3 : Ints W.heap.size W AD' dr') => SolveFlows_i J A cp xs AR cr rs AF cf fs AD' cd' dr' AS cs st tol rds W hxl hrl hfl h1 hsl fX fR fF lF h2 fS ((hI.below hb).more hb.size) ((hR.below hb).more hb.size) ((hF.below hb).more hb.size) h3 ((hS.below hb).more hb.size))
  have be0 : Below w.heap.size w (w.alloc (.cells #[.int .i64 J, .slice A xs.length cp] 33)) := by go_grown
  have k0 : ((w.alloc (.cells #[.int .i64 J, .slice A xs.length cp] 33))).cell? ⟨w.heap.size, 0, none⟩ = some (.int .i64 J) := by go_simp
  have k1 : ((w.alloc (.cells #[.int .i64 J, .slice A xs.length cp] 33))).cell? ⟨w.heap.size, 1, none⟩ = some (.slice A xs.length cp) := by go_simp
  clear hI hR hF hD hS fX fR fF lF fD fS hRR
  go_enter Tryz.func33, Tryz.ntmps33
  go_wp2_with fail
  generalize (w.alloc (.cells #[.int .i64 J, .slice A xs.length cp] 33)) = w0 at *
  refine (C1.out _ be0).mono ?_
  rintro e w1 ⟨rfl, hb1⟩
  have k01 := cell_later hb1 k0
  have k11 := cell_later hb1 k1
  have be1 := be0.trans (hb1.mono be0.size)
  cases h1 : mineB J xs
  · have HG : Hid (R = ([], 0, 1)) := Lib.hid (by rw [HR.out]; exact fireF_bad (by unfold baseF; rw [h1]; rfl) (by decide))
    clear h1
    go_wp2_with fail
    go_ret3
    refine ⟨.slice none 0 0, ret_v3 (by rw [HG.out]), ?_, be1⟩
    rw [HG.out]; exact Own.nil_ _ _
  have H1 := Lib.hid h1
  clear h1 k0 k1 hb1
  go_wp2_with fail
  refine (C2.out _ be1).mono ?_
  rintro e w2 ⟨rfl, hb2⟩
  have k02 := cell_later hb2 k01
  have k12 := cell_later hb2 k11
  have be2 := be1.trans (hb2.mono be1.size)
  cases h2 : fansB fs
  · have HG : Hid (R = ([], 0, 1)) := Lib.hid (by rw [HR.out]; exact fireF_bad (by unfold baseF; rw [H1.out, h2]; rfl) (by decide))
    clear h2
    go_wp2_with fail
    go_ret3
    refine ⟨.slice none 0 0, ret_v3 (by rw [HG.out]), ?_, be2⟩
    rw [HG.out]; exact Own.nil_ _ _
  have H2 := Lib.hid h2
  clear h2 k01 k11 hb2
  cases h3 : inB tol 0 100000
  · have HG : Hid (R = ([], 0, 2)) := Lib.hid (by rw [HR.out]; exact fireF_bad (by unfold baseF; rw [H1.out, H2.out, h3]; rfl) (by decide))
    go_wp2_with (first | (go_at_call 43; refine (within_any _ _ _ _).mono ?_; rintro e w' ⟨rfl, rfl⟩) | (go_at_call 61; refine (indexValidA_any _ _ _ _ _ (by omega)).mono ?_; rintro e w' ⟨rfl, rfl⟩))
    go_ret3
    refine ⟨.slice none 0 0, ret_v3 (by rw [HG.out]), ?_, be2⟩
    rw [HG.out]; exact Own.nil_ _ _
  cases h4 : inB rds 0 500
  · have HG : Hid (R = ([], 0, 2)) := Lib.hid (by rw [HR.out]; exact fireF_bad (by unfold baseF; rw [H1.out, H2.out, h3, h4]; rfl) (by decide))
    go_wp2_with (first | (go_at_call 43; refine (within_any _ _ _ _).mono ?_; rintro e w' ⟨rfl, rfl⟩) | (go_at_call 61; refine (indexValidA_any _ _ _ _ _ (by omega)).mono ?_; rintro e w' ⟨rfl, rfl⟩))
    go_ret3
    refine ⟨.slice none 0 0, ret_v3 (by rw [HG.out]), ?_, be2⟩
    rw [HG.out]; exact Own.nil_ _ _
  cases h5 : inB aw 0 ((xs.length : Int) - 1)
  · have HG : Hid (R = ([], 0, 2)) := Lib.hid (by rw [HR.out]; exact fireF_bad (by unfold baseF; rw [H1.out, H2.out, h3, h4, h5]; rfl) (by decide))
    go_wp2_with (first | (go_at_call 43; refine (within_any _ _ _ _).mono ?_; rintro e w' ⟨rfl, rfl⟩) | (go_at_call 61; refine (indexValidA_any _ _ _ _ _ (by omega)).mono ?_; rintro e w' ⟨rfl, rfl⟩))
    go_ret3
    refine ⟨.slice none 0 0, ret_v3 (by rw [HG.out]), ?_, be2⟩
    rw [HG.out]; exact Own.nil_ _ _
  cases h6 : inB am 0 100000
  · have HG : Hid (R = ([], 0, 2)) := Lib.hid (by rw [HR.out]; exact fireF_bad (by unfold baseF; rw [H1.out, H2.out, h3, h4, h5, h6]; rfl) (by decide))
    go_wp2_with (first | (go_at_call 43; refine (within_any _ _ _ _).mono ?_; rintro e w' ⟨rfl, rfl⟩) | (go_at_call 61; refine (indexValidA_any _ _ _ _ _ (by omega)).mono ?_; rintro e w' ⟨rfl, rfl⟩))
    go_ret3
    refine ⟨.slice none 0 0, ret_v3 (by rw [HG.out]), ?_, be2⟩
    rw [HG.out]; exact Own.nil_ _ _
  go_wp2_with (first | (go_at_call 43; refine (within_any _ _ _ _).mono ?_; rintro e w' ⟨rfl, rfl⟩) | (go_at_call 61; refine (indexValidA_any _ _ _ _ _ (by omega)).mono ?_; rintro e w' ⟨rfl, rfl⟩))
  have H3 := Lib.hid h3
  have H4 := Lib.hid h4
  have H5 := Lib.hid h5
  have H6 := Lib.hid h6
  obtain ⟨aw0, aw1⟩ := inB_iff.1 h5
  obtain ⟨am0, am1⟩ := inB_iff.1 h6
  clear h3 h4 h5 h6
  obtain ⟨a, rfl⟩ : ∃ a : Nat, aw = (a : Int) := ⟨aw.toNat, by omega⟩
  have hax : a < xs.length := by omega
  have HL2 : Hid (lstN xs.length dr (-100000) 100000 = (decide ((dr.length : Int) = xs.length) && allIn dr (-100000) 100000)) := Lib.hid rfl
  have HF7 : Hid (((sysB xs.length rs dr st && hasFB xs.length fs) && decide (dr.getD a 0 + am ≤ 100000)) = false → R = ([], 0, 7)) := Lib.hid (fun h => by rw [HR.out]; exact fireF_bad (by unfold baseF; rw [H1.out, H2.out, H3.out, H4.out, H5.out, H6.out, Int.toNat_natCast, h]; rfl) (by decide))
  have HSE : Hid (sysB xs.length rs dr st = (lstN xs.length rs 1 1000000 && (lstN xs.length dr (-100000) 100000 && lstN xs.length st (-100000) 100000))) := Lib.hid rfl
  refine (C3.out _ be2).mono ?_
  rintro e w3 ⟨rfl, hb3⟩
  have k03 := cell_later hb3 k02
  have k13 := cell_later hb3 k12
  have be3 := be2.trans (hb3.mono be2.size)
  rw [← HL2.out]
  cases h7 : lstN xs.length dr (-100000) 100000
  · have HG := Lib.hid (HF7.out (by rw [HSE.out, h7, Bool.false_and, Bool.and_false, Bool.false_and, Bool.false_and]))
    clear h7
    go_wp2_with fail
    go_ret3
    refine ⟨.slice none 0 0, ret_v3 (by rw [HG.out]), ?_, be3⟩
    rw [HG.out]; exact Own.nil_ _ _
  have H7 := Lib.hid h7
  obtain ⟨hdx, hdb⟩ := lstN_iff.1 h7
  have hxb := hdb a hax
  have HDX := Lib.hid hdx
  have HDB := Lib.hid hdb
  obtain ⟨add, rfl, hda, hdc⟩ := (GD.out.below be3).atD (k := a) (by omega)
  have ad1 : (a : Int) < dr.length := by omega
  clear h7 hdx hdb hb3 k02 k12
  have HFS := Lib.hid (fun (h8 : dr.getD a 0 + am ≤ 100000) => HR.out.trans (fireF_solve (J := J) (rs := rs) (st := st) H1.out H2.out H3.out H4.out hax H6.out H7.out h8))
  have HMO := Lib.hid (fun (h8 : dr.getD a 0 + am ≤ 100000) => more_ok H7.out hax am0 h8)
  have HME : Hid (moreF dr (a : Int) am = dr.set a (dr.getD a 0 + am)) := Lib.hid (by unfold moreF; rw [Int.toNat_natCast])
  generalize hx : dr.getD a 0 = x at *
  have HX := Lib.hid hx
  clear hx
  by_cases h8 : x + am ≤ 100000
  rotate_left
  · have HG := Lib.hid (HF7.out (by rw [decide_eq_false h8, Bool.and_false]))
    go_wp2_with fail
    go_ret3
    refine ⟨.slice none 0 0, ret_v3 (by rw [HG.out]), ?_, be3⟩
    rw [HG.out]; exact Own.nil_ _ _
  have HG := Lib.hid (HFS.out h8)
  have HM := Lib.hid (HMO.out h8)
  clear HFS HMO
  go_wp2_with fail
  refine (C5.out _ be3).mono ?_
  rintro e w4 ⟨v4, rfl, ho4, hb4⟩
  have k04 := cell_later hb4 k03
  have k14 := cell_later hb4 k13
  have be4 := be3.trans (hb4.mono be3.size)
  obtain ⟨AV, cv, hv, -, -⟩ := ho4.slice
  subst hv
  obtain ⟨g, rfl, hg1, hrow⟩ := ho4.row (n := dr.length) (by omega) rfl
  have hca := row_cell hrow rfl (i := a) (by omega)
  rw [HX.out] at hca
  have hfr := row_free hrow a
  have hbk : w.heap.size < w3.heap.size := World.block_lt_of_cell? _ _ k03
  have be5 : Below w.heap.size w (w4.setCell ⟨g, a, none⟩ (.int .i64 (x + am))) := be4.setCell (by have := be3.size; simp; omega) _
  have k05 : (w4.setCell ⟨g, a, none⟩ (.int .i64 (x + am))).cell? ⟨w.heap.size, 0, none⟩ = some (.int .i64 J) := cell_apart k04 (by simp; omega)
  have k15 : (w4.setCell ⟨g, a, none⟩ (.int .i64 (x + am))).cell? ⟨w.heap.size, 1, none⟩ = some (.slice A xs.length cp) := cell_apart k14 (by simp; omega)
  obtain ⟨r1, _⟩ := World.ownsRow.stored hrow a (.int .i64 (x + am))
  rw [vals_set] at r1
  have hints := (Own.of_row (b := w3.heap.size) r1 (List.length_set ..) hg1).ints
  rw [HME.out] at HM HG
  obtain ⟨hm1, hm2⟩ := lstN_iff.1 HM.out
  have hS := C6.out (some ⟨g, 0, none⟩) cv (dr.set a (x + am)) _ be5 (by rw [List.length_set]; exact hdl) (fits_of hm1 (fun i hi => by have := hm2 i hi; omega)) hints
  rw [List.length_set, ← HG.out] at hS
  have HS := Lib.hid hS
  clear hS hints r1 hrow ho4 hm1 hm2 HM HG hb4
  go_wp2_with fail
  generalize w4.setCell ⟨g, a, none⟩ (.int .i64 (x + am)) = w5 at *
  refine HS.out.mono ?_
  rintro e w6 ⟨u, rfl, ho6, hb6⟩
  have HO := Lib.hid ho6
  clear ho6
  go_wp2_with fail
  go_ret3
  exact ⟨u, rfl, HO.out.base (fun g hg => Nat.le_trans be5.size (World.ownsRow.lt HO.out g hg).1), be5.trans (hb6.mono be5.size)⟩
set_option maxRecDepth 100000 in
set_option maxHeartbeats 3200000 in
theorem l18Base_any (bm om : Nat) (J : Int) (A : Option Addr) (cp : Nat) (xs : List Aw) (AR : Option Addr) (cr : Nat) (rs : List Int) (AF : Option Addr) (cf : Nat) (fs : List Fa) (AD : Option Addr) (cd : Nat) (dr : List Int) (AS : Option Addr) (cs : Nat) (st : List Int) (tol rds : Int) (aw am : Int) (B : Nat) (w : World) (hxl : (xs.length : Int) ≤ 1048576) (hrl : rs.length ≤ 1048576) (hfl : fs.length ≤ 1048576) (hdl : dr.length ≤ 1048576) (hsl : st.length ≤ 1048576) (fX : FitsA xs) (fF : FitsF fs) (lF : FansLen fs) (hI : Recs encA 7 B w A xs) (hR : Ints B w AR rs) (hF : Fns B w AF fs) (hD : Ints B w AD dr) (hS : Ints B w AS st) (hB : B ≤ w.heap.size)
    (m0 : w.cell? ⟨bm, om, none⟩ = some (.int .i64 J)) (mm : w.cell? ⟨bm, om + 1, none⟩ = some (.slice A xs.length cp)) :
    Calls Tryz.prog 66 #[.pointer (some ⟨bm, om, none⟩), .slice AR rs.length cr, .slice AF fs.length cf, .slice AD dr.length cd, .slice AS st.length cs, .int .i64 tol, .int .i64 rds, .int .i64 aw, .int .i64 am] w fun e w' => e = .returned (.int .i64 (baseF J xs rs fs dr st tol rds aw am)) ∧ ∃ n, w.drewN n = w' := by
  obtain ⟨R, hRR⟩ : ∃ R, R = baseF J xs rs fs dr st tol rds aw am := ⟨_, rfl⟩
  rw [← hRR]
  have HR := Lib.hid hRR
  have GI := Lib.hid (hI.more hB)
  have GR := Lib.hid (hR.more hB)
  have GF := Lib.hid (hF.more hB)
  have GD := Lib.hid (hD.more hB)
  have GS := Lib.hid (hS.more hB)
  have FX := Lib.hid fX
  have FF := Lib.hid fF
  have LF := Lib.hid lF
  have K0 := Lib.hid m0
  have K1 := Lib.hid mm
  have BD := Lib.hid (fun n => below_drewN (Below.refl w.heap.size w) n)
  clear hI hR hF hD hS fX fF lF hRR hB
  go_enter Tryz.func66, Tryz.ntmps66
  go_wp2_with fail
  refine (l04Ok_any bm om J A cp xs w.heap.size _ (by omega) FX.out GI.out K0.out K1.out).mono ?_
  rintro e w1 ⟨rfl, d1, rfl⟩
  cases h1 : mineB J xs
  · have HG : Hid (R = 1) := Lib.hid (by rw [HR.out]; unfold baseF; rw [h1]; rfl)
    clear h1
    go_wp2_with fail
    go_ret
    exact ⟨ret_int (by rw [HG.out]), _, rfl⟩
  have H1 := Lib.hid h1
  clear h1
  go_wp2_with fail
  refine (l06List_any AF cf fs w.heap.size _ (by omega) FF.out LF.out (GF.out.below (BD.out d1))).mono ?_
  rintro e w2 ⟨rfl, d2, rfl⟩
  cases h2 : fansB fs
  · have HG : Hid (R = 1) := Lib.hid (by rw [HR.out]; unfold baseF; rw [H1.out, h2]; rfl)
    clear h2
    go_wp2_with fail
    go_ret
    exact ⟨ret_int (by rw [HG.out]), _, rfl⟩
  have H2 := Lib.hid h2
  clear h2
  cases h3 : inB tol 0 100000
  · have HG : Hid (R = 2) := Lib.hid (by rw [HR.out]; unfold baseF; rw [H1.out, H2.out, h3]; rfl)
    go_wp2_with (go_at_call 67; refine (l00In_any _ _ _ _).mono ?_; rintro e w' ⟨rfl, rfl⟩)
    go_ret
    exact ⟨ret_int (by rw [HG.out]), _, rfl⟩
  cases h4 : inB rds 0 500
  · have HG : Hid (R = 2) := Lib.hid (by rw [HR.out]; unfold baseF; rw [H1.out, H2.out, h3, h4]; rfl)
    go_wp2_with (go_at_call 67; refine (l00In_any _ _ _ _).mono ?_; rintro e w' ⟨rfl, rfl⟩)
    go_ret
    exact ⟨ret_int (by rw [HG.out]), _, rfl⟩
  cases h5 : inB aw 0 ((xs.length : Int) - 1)
  · have HG : Hid (R = 2) := Lib.hid (by rw [HR.out]; unfold baseF; rw [H1.out, H2.out, h3, h4, h5]; rfl)
    go_wp2_with (go_at_call 67; refine (l00In_any _ _ _ _).mono ?_; rintro e w' ⟨rfl, rfl⟩)
    go_ret
    exact ⟨ret_int (by rw [HG.out]), _, rfl⟩
  cases h6 : inB am 0 100000
  · have HG : Hid (R = 2) := Lib.hid (by rw [HR.out]; unfold baseF; rw [H1.out, H2.out, h3, h4, h5, h6]; rfl)
    go_wp2_with (go_at_call 67; refine (l00In_any _ _ _ _).mono ?_; rintro e w' ⟨rfl, rfl⟩)
    go_ret
    exact ⟨ret_int (by rw [HG.out]), _, rfl⟩
  go_wp2_with (go_at_call 67; refine (l00In_any _ _ _ _).mono ?_; rintro e w' ⟨rfl, rfl⟩)
  have H3 := Lib.hid h3
  have H4 := Lib.hid h4
  have H5 := Lib.hid h5
  have H6 := Lib.hid h6
  obtain ⟨aw0, aw1⟩ := inB_iff.1 h5
  obtain ⟨am0, am1⟩ := inB_iff.1 h6
  clear h3 h4 h5 h6
  obtain ⟨a, rfl⟩ : ∃ a : Nat, aw = (a : Int) := ⟨aw.toNat, by omega⟩
  have hax : a < xs.length := by omega
  have HSE : Hid (sysB xs.length rs dr st = (lstN xs.length rs 1 1000000 && (lstN xs.length dr (-100000) 100000 && lstN xs.length st (-100000) 100000))) := Lib.hid rfl
  have HL1 : Hid (lstN xs.length rs 1 1000000 = (decide ((rs.length : Int) = xs.length) && allIn rs 1 1000000)) := Lib.hid rfl
  have HL2 : Hid (lstN xs.length dr (-100000) 100000 = (decide ((dr.length : Int) = xs.length) && allIn dr (-100000) 100000)) := Lib.hid rfl
  have HL3 : Hid (lstN xs.length st (-100000) 100000 = (decide ((st.length : Int) = xs.length) && allIn st (-100000) 100000)) := Lib.hid rfl
  have HRB : Hid (R = if ((sysB xs.length rs dr st && hasFB xs.length fs) && decide (dr.getD a 0 + am ≤ 100000)) = true then 0 else 7) := Lib.hid (by rw [HR.out]; unfold baseF; rw [H1.out, H2.out, H3.out, H4.out, H5.out, H6.out, Int.toNat_natCast]; rfl)
  refine (l07Res_any bm om A cp xs.length AR cr rs w.heap.size _ (by omega) (by omega) (GR.out.below (BD.out _)) (cell_later (BD.out _) K1.out)).mono ?_
  rintro e w3 ⟨rfl, d3, rfl⟩
  rw [← HL1.out]
  cases h5 : lstN xs.length rs 1 1000000
  · have HG : Hid (R = 7) := Lib.hid (by rw [HRB.out, HSE.out, h5]; rfl)
    clear h5
    go_wp2_with fail
    go_ret
    exact ⟨ret_int (by rw [HG.out]), _, rfl⟩
  have H7 := Lib.hid h5
  clear h5
  go_wp2_with fail
  refine (l07Fans_any bm om A cp xs.length AF cf fs w.heap.size _ (by omega) (fans_aw H2.out) (by omega) (GF.out.below (BD.out _)) (cell_later (BD.out _) K1.out)).mono ?_
  rintro e w4 ⟨rfl, d4, rfl⟩
  cases h6 : hasFB xs.length fs
  · have HG : Hid (R = 7) := Lib.hid (by rw [HRB.out, h6, Bool.and_false, Bool.false_and]; rfl)
    clear h6
    go_wp2_with fail
    go_ret
    exact ⟨ret_int (by rw [HG.out]), _, rfl⟩
  have H8 := Lib.hid h6
  clear h6
  go_wp2_with fail
  refine (l07Pressures_any bm om A cp xs.length AD cd dr w.heap.size _ (by omega) (by omega) (GD.out.below (BD.out _)) (cell_later (BD.out _) K1.out)).mono ?_
  rintro e w5 ⟨rfl, d5, rfl⟩
  rw [← HL2.out]
  cases h7 : lstN xs.length dr (-100000) 100000
  · have HG : Hid (R = 7) := Lib.hid (by rw [HRB.out, HSE.out, H7.out, h7]; rfl)
    clear h7
    go_wp2_with fail
    go_ret
    exact ⟨ret_int (by rw [HG.out]), _, rfl⟩
  have H9 := Lib.hid h7
  obtain ⟨hdx, hdb⟩ := lstN_iff.1 h7
  have hxb := hdb a hax
  have HDX := Lib.hid hdx
  clear h7 hdx hdb
  go_wp2_with fail
  refine (l07Flows_any bm om A cp xs.length AS cs st w.heap.size _ (by omega) (by omega) (GS.out.below (BD.out _)) (cell_later (BD.out _) K1.out)).mono ?_
  rintro e w6 ⟨rfl, d6, rfl⟩
  rw [← HL3.out]
  cases h8 : lstN xs.length st (-100000) 100000
  · have HG : Hid (R = 7) := Lib.hid (by rw [HRB.out, HSE.out, H7.out, H9.out, h8]; rfl)
    clear h8
    go_wp2_with fail
    go_ret
    exact ⟨ret_int (by rw [HG.out]), _, rfl⟩
  have HRC : Hid (R = if dr.getD a 0 + am ≤ 100000 then 0 else 7) := Lib.hid (by rw [HRB.out, HSE.out, H7.out, H9.out, h8, H8.out]; simp)
  obtain ⟨add, rfl, hda, hdc⟩ := GD.out.atD (k := a) (by have := HDX.out; omega)
  have ad1 : (a : Int) < dr.length := by have := HDX.out; omega
  clear h8
  generalize dr.getD a 0 = x at *
  by_cases h9 : x + am ≤ 100000
  · have HG : Hid (R = 0) := Lib.hid (by rw [HRC.out, if_pos h9])
    go_wp2_with fail
    go_ret
    exact ⟨ret_int (by rw [HG.out]), _, rfl⟩
  · have HG : Hid (R = 7) := Lib.hid (by rw [HRC.out, if_neg h9])
    go_wp2_with fail
    go_ret
    exact ⟨ret_int (by rw [HG.out]), _, rfl⟩
set_option maxRecDepth 100000 in
set_option maxHeartbeats 3200000 in
theorem l18Fire_any (bm om : Nat) (J : Int) (A : Option Addr) (cp : Nat) (xs : List Aw) (AR : Option Addr) (cr : Nat) (rs : List Int) (AF : Option Addr) (cf : Nat) (fs : List Fa) (AD : Option Addr) (cd : Nat) (dr : List Int) (AS : Option Addr) (cs : Nat) (st : List Int) (tol rds : Int) (aw am : Int) (w : World) (hxl : (xs.length : Int) ≤ 1048576) (hrl : rs.length ≤ 1048576) (hfl : fs.length ≤ 1048576) (hdl : dr.length ≤ 1048576) (hsl : st.length ≤ 1048576) (fX : FitsA xs) (fF : FitsF fs) (lF : FansLen fs) (hI : Recs encA 7 w.heap.size w A xs) (hR : Ints w.heap.size w AR rs) (hF : Fns w.heap.size w AF fs) (hD : Ints w.heap.size w AD dr) (hS : Ints w.heap.size w AS st)
    (m0 : w.cell? ⟨bm, om, none⟩ = some (.int .i64 J)) (mm : w.cell? ⟨bm, om + 1, none⟩ = some (.slice A xs.length cp)) :
    Calls Tryz.prog 60 #[.pointer (some ⟨bm, om, none⟩), .slice AR rs.length cr, .slice AF fs.length cf, .slice AD dr.length cd, .slice AS st.length cs, .int .i64 tol, .int .i64 rds, .int .i64 aw, .int .i64 am] w fun e w' => ∃ u, e = .returned (.tuple #[u, .int .i64 (fireF J xs rs fs dr st tol rds aw am).2.1, .int .i64 (fireF J xs rs fs dr st tol rds aw am).2.2]) ∧ Own w.heap.size w' u (fireF J xs rs fs dr st tol rds aw am).1 ∧ Below w.heap.size w w' := by
  obtain ⟨R, hRR⟩ : ∃ R, R = fireF J xs rs fs dr st tol rds aw am := ⟨_, rfl⟩
  rw [← hRR]
  have HR := Lib.hid hRR
  have CB := Lib.hid (l18Base_any bm om J A cp xs AR cr rs AF cf fs AD cd dr AS cs st tol rds aw am w.heap.size w hxl hrl hfl hdl hsl fX fF lF hI hR hF hD hS (Nat.le_refl _) m0 mm)
  have C5 := Lib.hid (fun (W : World) (hb : Below w.heap.size w W) => l00Own_gen AD cd dr w.heap.size W hdl (hD.below hb))
  have C6 := Lib.hid (fun (AD' : Option Addr) (cd' : Nat) (dr' : List Int) (W : World) (hb : Below w.heap.size w W) (h1 : dr'.length ≤ 1048576) (h3 : Ints W.heap.size W AD' dr') => SolveFlows_s J A cp xs AR cr rs AF cf fs AD' cd' dr' AS cs st tol rds W hxl hrl hfl h1 hsl fX fF lF ((hI.below hb).more hb.size) ((hR.below hb).more hb.size) ((hF.below hb).more hb.size) h3 ((hS.below hb).more hb.size))
  have hbmw : bm < w.heap.size := World.block_lt_of_cell? _ _ m0
  have K0 := Lib.hid m0
  have K1 := Lib.hid mm
  clear hI hR hF hD hS fX fF lF hRR m0 mm
  go_enter Tryz.func60, Tryz.ntmps60
  go_wp2_with fail
  refine CB.out.mono ?_
  rintro e w1 ⟨rfl, d1, rfl⟩
  have be1 := below_drewN (Below.refl w.heap.size w) d1
  cases hc : decide (baseF J xs rs fs dr st tol rds aw am = 0)
  · have hc := of_decide_eq_false hc
    have HG : Hid (R = ([], 0, baseF J xs rs fs dr st tol rds aw am)) := Lib.hid (by rw [HR.out]; exact fireF_bad rfl hc)
    have hcb : (baseF J xs rs fs dr st tol rds aw am != 0) = true := by simpa using hc
    generalize baseF J xs rs fs dr st tol rds aw am = c at *
    clear hc
    go_wp2_with fail
    go_ret3
    refine ⟨.slice none 0 0, ret_v3 (by rw [HG.out]), ?_, be1⟩
    rw [HG.out]; exact Own.nil_ _ _
  have hc := of_decide_eq_true hc
  have HG : Hid (R = solveF J xs rs fs (moreF dr aw am) st tol rds) := Lib.hid (by rw [HR.out]; unfold fireF; rw [if_pos hc])
  have HB : Hid ((0 ≤ aw ∧ aw ≤ (xs.length : Int) - 1) ∧ (0 ≤ am ∧ am ≤ 100000) ∧ lstN xs.length dr (-100000) 100000 = true ∧ dr.getD aw.toNat 0 + am ≤ 100000) := Lib.hid (by
    unfold baseF at hc
    split at hc
    · split at hc
      · split at hc
        · rename_i _ ha hb
          simp only [Bool.and_eq_true, decide_eq_true_eq] at ha hb
          have hs := hb.1.1
          unfold sysB at hs
          simp only [Bool.and_eq_true] at hs
          exact ⟨inB_iff.1 ha.2.2.1, inB_iff.1 ha.2.2.2, hs.2.1, hb.2⟩
        · cases hc
      · cases hc
    · cases hc)
  rw [hc]
  clear hc
  obtain ⟨⟨aw0, aw1⟩, ⟨am0, am1⟩, h7, h8⟩ := HB.out
  obtain ⟨a, rfl⟩ : ∃ a : Nat, aw = (a : Int) := ⟨aw.toNat, by omega⟩
  have hax : a < xs.length := by omega
  rw [Int.toNat_natCast] at h8
  have HM := Lib.hid (more_ok h7 hax am0 h8)
  have HME : Hid (moreF dr (a : Int) am = dr.set a (dr.getD a 0 + am)) := Lib.hid (by unfold moreF; rw [Int.toNat_natCast])
  obtain ⟨hdx, hdb⟩ := lstN_iff.1 h7
  have hxb := hdb a hax
  have HDX := Lib.hid hdx
  have ad1 : (a : Int) < dr.length := by omega
  have z0 : (0 : Int) ≤ (a : Int) := by omega
  generalize hx : dr.getD a 0 = x at *
  have HX := Lib.hid hx
  clear hx h7 hdx hdb CB HB
  go_wp2_with fail
  refine (C5.out _ be1).mono ?_
  rintro e w4 ⟨v4, rfl, ho4, hb4⟩
  have be4 := be1.trans (hb4.mono be1.size)
  obtain ⟨AV, cv, hv, -, -⟩ := ho4.slice
  subst hv
  obtain ⟨g, rfl, hg1, hrow⟩ := ho4.row (n := dr.length) (by omega) rfl
  have hg1' : w.heap.size ≤ g := hg1
  have hca := row_cell hrow rfl (i := a) (by omega)
  rw [HX.out] at hca
  have hfr := row_free hrow a
  have be5 : Below w.heap.size w (w4.setCell ⟨g, a, none⟩ (.int .i64 (x + am))) := be4.setCell (by simpa using hg1') _
  have k05 := cell_later be5 K0.out
  have k15 := cell_later be5 K1.out
  obtain ⟨r1, _⟩ := World.ownsRow.stored hrow a (.int .i64 (x + am))
  rw [vals_set] at r1
  have hints := (Own.of_row (b := w.heap.size) r1 (List.length_set ..) hg1').ints
  rw [HME.out] at HM HG
  obtain ⟨hm1, hm2⟩ := lstN_iff.1 HM.out
  have hS := C6.out (some ⟨g, 0, none⟩) cv (dr.set a (x + am)) _ be5 (by rw [List.length_set]; exact hdl) hints
  rw [List.length_set, ← HG.out] at hS
  have HS := Lib.hid hS
  clear hS hints r1 hrow ho4 hm1 hm2 HM HG hb4
  go_wp2_with fail
  generalize w4.setCell ⟨g, a, none⟩ (.int .i64 (x + am)) = w5 at *
  refine HS.out.mono ?_
  rintro e w6 ⟨u, rfl, ho6, hb6⟩
  have HO := Lib.hid ho6
  clear ho6
  go_wp2_with fail
  go_ret3
  exact ⟨u, rfl, HO.out.base (fun g hg => Nat.le_trans be5.size (World.ownsRow.lt HO.out g hg).1), be5.trans (hb6.mono be5.size)⟩
set_option maxRecDepth 100000 in
theorem FlowsWithFire_s (J : Int) (A : Option Addr) (cp : Nat) (xs : List Aw) (AR : Option Addr) (cr : Nat) (rs : List Int) (AF : Option Addr) (cf : Nat) (fs : List Fa) (AD : Option Addr) (cd : Nat) (dr : List Int) (AS : Option Addr) (cs : Nat) (st : List Int) (tol rds : Int) (aw am : Int) (w : World) (hxl : (xs.length : Int) ≤ 1048576) (hrl : rs.length ≤ 1048576) (hfl : fs.length ≤ 1048576) (hdl : dr.length ≤ 1048576) (hsl : st.length ≤ 1048576) (fX : FitsA xs) (fF : FitsF fs) (lF : FansLen fs) (hI : Recs encA 7 w.heap.size w A xs) (hR : Ints w.heap.size w AR rs) (hF : Fns w.heap.size w AF fs) (hD : Ints w.heap.size w AD dr) (hS : Ints w.heap.size w AS st) :
    Calls Tryz.prog 32 #[.agg #[.int .i64 J, .slice A xs.length cp], .slice AR rs.length cr, .slice AF fs.length cf, .slice AD dr.length cd, .slice AS st.length cs, .int .i64 tol, .int .i64 rds, .int .i64 aw, .int .i64 am] w fun e w' => ∃ u, e = .returned (.tuple #[u, .int .i64 (fireF J xs rs fs dr st tol rds aw am).2.1, .int .i64 (fireF J xs rs fs dr st tol rds aw am).2.2]) ∧ Own w.heap.size w' u (fireF J xs rs fs dr st tol rds aw am).1 ∧ Below w.heap.size w w' := by
  have be0 : Below w.heap.size w (w.alloc (.cells #[.int .i64 J, .slice A xs.length cp] 33)) := by go_grown
  have k0 : ((w.alloc (.cells #[.int .i64 J, .slice A xs.length cp] 33))).cell? ⟨w.heap.size, 0, none⟩ = some (.int .i64 J) := by go_simp
  have k1 : ((w.alloc (.cells #[.int .i64 J, .slice A xs.length cp] 33))).cell? ⟨w.heap.size, 1, none⟩ = some (.slice A xs.length cp) := by go_simp
  have CF := Lib.hid (l18Fire_any w.heap.size 0 J A cp xs AR cr rs AF cf fs AD cd dr AS cs st tol rds aw am (w.alloc (.cells #[.int .i64 J, .slice A xs.length cp] 33)) hxl hrl hfl hdl hsl fX fF lF ((hI.below be0).more be0.size) ((hR.below be0).more be0.size) ((hF.below be0).more be0.size) ((hD.below be0).more be0.size) ((hS.below be0).more be0.size) k0 k1)
  clear hI hR hF hD hS fX fF lF k0 k1
  generalize fireF J xs rs fs dr st tol rds aw am = R at *
  go_enter Tryz.func32, Tryz.ntmps32
  go_wp2_with fail
  refine CF.out.mono ?_
  rintro e w1 ⟨u, rfl, ho, hb⟩
  have HO := Lib.hid ho
  clear ho
  go_wp2_with fail
  go_ret3
  exact ⟨u, rfl, HO.out.base (fun g hg => Nat.le_trans be0.size (World.ownsRow.lt HO.out g hg).1), be0.trans (hb.mono be0.size)⟩
end Go.Proofs.YtejkoicgbgoiaaaGreat
