/- What regulators take away: the program's and the reference's. Conditions: the facts on memory and on lengths that each theorem names. -/
import Derived.Test.YtlgagnbnjfneaaaPotF
import Derived.IntWalk
import Derived.Deep.RegionHeldLaw
namespace Go.Proofs.Ytlgagnbnjfneaaa
open Go.RowKit
open Pl
def regG (p : List Int) (xs : List Aw) (gs : List Int) (k : Nat) : Int := p.getD (aF xs k) 0 - p.getD (aT xs k) 0 + gs.getD k 0
def regN (p : List Int) (xs : List Aw) (gs : List Int) (n : Nat) : List Int := (List.range n).map (regG p xs gs)
theorem regN_succ (p : List Int) (xs : List Aw) (gs : List Int) (n : Nat) : regN p xs gs (n + 1) = regN p xs gs n ++ [regG p xs gs n] := by unfold regN; rw [List.range_succ, List.map_append]; rfl
theorem regN_length (p : List Int) (xs : List Aw) (gs : List Int) (n : Nat) : (regN p xs gs n).length = n := by simp [regN]
noncomputable def regF (J : Int) (xs : List Aw) (ds ps : List Int) (rs : List Bool) : List Int × Int :=
  if codeF J xs ds ps rs = 0 then (match fitF xs (gainL ps ds) rs J with | none => ([], 3) | some p => (regN p xs (gainL ps ds) xs.length, 0)) else ([], codeF J xs ds ps rs)
theorem regF_no {J : Int} {xs : List Aw} {ds ps : List Int} {rs : List Bool} (h : codeF J xs ds ps rs ≠ 0) : regF J xs ds ps rs = ([], codeF J xs ds ps rs) := by unfold regF; rw [if_neg h]
theorem regF_none {J : Int} {xs : List Aw} {ds ps : List Int} {rs : List Bool} (h : codeF J xs ds ps rs = 0) (h' : fitF xs (gainL ps ds) rs J = none) : regF J xs ds ps rs = ([], 3) := by unfold regF; rw [if_pos h, h']
theorem regF_some {J : Int} {xs : List Aw} {ds ps : List Int} {rs : List Bool} {p : List Int} (h : codeF J xs ds ps rs = 0) (h' : fitF xs (gainL ps ds) rs J = some p) : regF J xs ds ps rs = (regN p xs (gainL ps ds) xs.length, 0) := by unfold regF; rw [if_pos h, h']
theorem regF_len (J : Int) (xs : List Aw) (ds ps : List Int) (rs : List Bool) : (regF J xs ds ps rs).1.length ≤ 1048576 := by
  by_cases h : codeF J xs ds ps rs = 0
  · cases hf : fitF xs (gainL ps ds) rs J with
    | none => rw [regF_none h hf]; simp
    | some p =>
      rw [regF_some h hf]
      have := (mineB_bd (codeF_zero h).1).2.1
      show (regN _ _ _ _).length ≤ _
      rw [regN_length]; omega
  · rw [regF_no h]; simp
/-- How great potentials are. -/
theorem fitGo_bd {xs : List Aw} {gs : List Int} {rs : List Bool} {J : Nat} (he : Ends xs J) (hg : Gd xs.length gs) {p : List Int} (r : Nat) : ∀ (c : Nat) (d : List Int), d.length = J → Bd c d → fitGo xs gs rs xs.length r d = some p → p.length = J ∧ Bd (c + 2 * xs.length * r) p := by
  induction r with
  | zero => intro c d _ _ h; simp [fitGo] at h
  | succ r ih =>
    intro c d hd hb h
    have hb' := hb.rnd (rs := rs) he hg hd xs.length (Nat.le_refl _)
    have hl := (rnd_len (xs := xs) (gs := gs) (rs := rs) xs.length d).trans hd
    have hm : 2 * xs.length * (r + 1) = 2 * xs.length * r + 2 * xs.length := by rw [Nat.mul_add, Nat.mul_one]
    unfold fitGo at h
    split at h
    · obtain ⟨a, b⟩ := ih _ _ hl hb' h
      exact ⟨a, b.more (by omega)⟩
    · injection h with h
      subst h
      exact ⟨hl, hb'.more (by omega)⟩
theorem fitF_bd {xs : List Aw} {gs : List Int} {rs : List Bool} {N : Nat} {p : List Int} (hm : mineB (N : Int) xs = true) (hg : ∀ k, k < xs.length → -1100000 ≤ gs.getD k 0 ∧ gs.getD k 0 ≤ 1100000) (h : fitF xs gs rs (N : Int) = some p) : p.length = N ∧ ∀ i, -2000000000 ≤ p.getD i 0 ∧ p.getD i 0 ≤ 0 := by
  obtain ⟨⟨n1, n2⟩, nx, _⟩ := mineB_bd hm
  obtain ⟨hE, _⟩ := mineB_ends hm
  rw [Int.toNat_natCast] at hE
  unfold fitF at h
  rw [Int.toNat_natCast] at h
  obtain ⟨a, b⟩ := fitGo_bd hE (fun k hk => by have := hg k hk; omega) (N + 1) 0 _ (by simp) (Bd.zeros N) h
  refine ⟨a, fun i => ?_⟩
  have := b i
  have hle : 2 * xs.length * (N + 1) ≤ 2 * 24 * 17 := Nat.mul_le_mul (by omega) (by omega)
  omega
/-- A cell behind an append to another row. -/
theorem app_cell {w2 w1 : World} {o : Obj} {v : Value} {base s n : Nat} {T : TypeId} {ys : List Value} (ho : w2.ownsRow base T s v n ys) (hg : ((w2.alloc o).drew).grownBy w1 v.ownBlock) {p : Addr} {u : Value} (h : w2.cell? p = some u) (hp : p.block < base) : w1.cell? p = some u :=
  hg.cell (Lib.cell?_alloc_some _ h) (fun e => by have := (World.ownsRow.lt ho _ e.symm).1; omega)
theorem app_cell2 {wr w2 w1 : World} {o : Obj} {v : Value} {base s n : Nat} {T : TypeId} {ys : List Value} (ho : wr.ownsRow base T s v n ys) (hg : ((w2.alloc o).drew).grownBy w1 v.ownBlock) {p : Addr} {u : Value} (h : w2.cell? p = some u) (hp : wr.heap.size ≤ p.block) : w1.cell? p = some u :=
  hg.cell (Lib.cell?_alloc_some _ h) (fun e => by have := (World.ownsRow.lt ho _ e.symm).2; omega)
set_option maxRecDepth 100000 in
set_option maxHeartbeats 3200000 in
theorem RegulatorDrops_i (J : Int) (A : Option Addr) (cp : Nat) (xs : List Aw) (A1 : Option Addr) (c1 : Nat) (ds : List Int) (A2 : Option Addr) (c2 : Nat) (ps : List Int) (A3 : Option Addr) (c3 : Nat) (rs : List Bool) (w : World) (hx : (xs.length : Int) ≤ 1048576) (hF : FitsA xs) (hI : Recs encA 7 w.heap.size w A xs) (n1 : (ds.length : Int) ≤ 1048576) (hI1 : Ints w.heap.size w A1 ds) (hT1 : Fits ds) (n2 : (ps.length : Int) ≤ 1048576) (hI2 : Ints w.heap.size w A2 ps) (hT2 : Fits ps) (n3 : (rs.length : Int) ≤ 1048576) (hI3 : Bools w.heap.size w A3 rs) :
    Calls Try.prog 30 #[.agg #[.int .i64 J, .slice A xs.length cp], .slice A1 ds.length c1, .slice A2 ps.length c2, .slice A3 rs.length c3] w fun e w' => ∃ v, e = .returned (.tuple #[v, .int .i64 (regF J xs ds ps rs).2]) ∧ Own w.heap.size w' v (regF J xs ds ps rs).1 ∧ Below w.heap.size w w' := by
  obtain ⟨R, hR⟩ : ∃ R, R = regF J xs ds ps rs := ⟨_, rfl⟩
  rw [← hR]
  have HR := Lib.hid hR
  clear hR
  have be0 : Below w.heap.size w (w.alloc (.cells #[.int .i64 J, .slice A xs.length cp] 31)) := by go_grown
  by_cases hc : codeF J xs ds ps rs = 0
  rotate_left
  · have HG := Lib.hid (regF_no hc)
    have HB := Lib.hid (fun (W : World) (hb : Below w.heap.size w W) => boostersOf_no J A cp xs A1 c1 ds A2 c2 ps A3 c3 rs W hx hF ((hI.below hb).more hb.size) n1 ((hI1.below hb).more hb.size) hT1 n2 ((hI2.below hb).more hb.size) hT2 n3 hc)
    have hc' : (codeF J xs ds ps rs != 0) = true := by simpa using hc
    clear hI hI1 hI2 hI3 hT1 hT2 hF hc
    generalize codeF J xs ds ps rs = q at *
    go_enter Try.func30, Try.ntmps30
    go_wp2_with fail
    generalize w.alloc (.cells #[.int .i64 J, .slice A xs.length cp] 31) = w0 at *
    refine (HB.out _ be0).mono ?_
    rintro e w1 ⟨rfl, hb1⟩
    have be1 := be0.trans (hb1.mono be0.size)
    go_wp2_with fail
    go_ret2
    exact ⟨_, ret_vi (by rw [HR.out, HG.out]), by rw [HR.out, HG.out]; exact Own.nil_ _ _, be1.alloc be1.size _⟩
  obtain ⟨hm, hg⟩ := codeF_zero hc
  obtain ⟨N, rfl⟩ := mineB_nat hm
  have m1_0 : (w.alloc (.cells #[.int .i64 (N : Int), .slice A xs.length cp] 31)).cell? ⟨w.heap.size, 1, none⟩ = some (.slice A xs.length cp) := by go_simp
  obtain ⟨g1, g2, g3, g4, g5, g6, g7⟩ := boo_ends hg
  have HB := Lib.hid (fun (W : World) (hb : Below w.heap.size w W) => boostersOf_yes (N : Int) A cp xs A1 c1 ds A2 c2 ps A3 c3 rs W hx hF ((hI.below hb).more hb.size) n1 ((hI1.below hb).more hb.size) hT1 n2 ((hI2.below hb).more hb.size) hT2 n3 hm hg)
  have HP := Lib.hid (fun (AG : Option Addr) (cg : Nat) (W : World) (hb : Below w.heap.size w W) (hG : Ints W.heap.size W AG (gainL ps ds)) => potentials_any N A cp xs AG cg (gainL ps ds) A3 c3 rs W ((hI.below hb).more hb.size) hm hG g1 g3 ((hI3.below hb).more hb.size) g2)
  have HN := Lib.hid (fun h => regF_none (J := (N : Int)) (xs := xs) (ds := ds) (ps := ps) (rs := rs) hc h)
  have HS := Lib.hid (fun p h => regF_some (J := (N : Int)) (xs := xs) (ds := ds) (ps := ps) (rs := rs) (p := p) hc h)
  have HBd := Lib.hid (fun p h => fitF_bd (rs := rs) (p := p) hm g3 h)
  have J0 := Lib.hid hI
  have HE := Lib.hid (mineB_ends hm)
  have HL := Lib.hid (gainL_length ps ds)
  have HL2 := Lib.hid g1
  have HG3 := Lib.hid g3
  have hxn : xs.length ≤ 24 := by have := (mineB_bd hm).2.1; omega
  clear hI hI1 hI2 hI3 hT1 hT2 hF hc hm hg g1 g2 g3 g4 g5 g6 g7
  cases hf : fitF xs (gainL ps ds) rs (N : Int) with
  | none =>
    have HG := Lib.hid (HN.out hf)
    rw [hf] at HP
    clear hf m1_0
    go_enter Try.func30, Try.ntmps30
    go_wp2_with fail
    generalize w.alloc (.cells #[.int .i64 (N : Int), .slice A xs.length cp] 31) = w0 at *
    refine (HB.out _ be0).mono ?_
    rintro e w1 ⟨v, rfl, ho, hb1⟩
    have be1 := be0.trans (hb1.mono be0.size)
    obtain ⟨AV, cv, rfl, -, -⟩ := ho.slice
    have HO := Lib.hid ho
    clear ho
    go_wp2_with fail
    refine (HP.out AV cv _ (be1.alloc be1.size _) (HO.out.later ((Below.refl _ _).alloc (Nat.le_refl _) _)).ints).mono ?_
    rintro e w2 ⟨v, rfl, _, hb2⟩
    go_wp2_with fail
    go_ret2
    exact ⟨_, ret_vi (by rw [HR.out, HG.out]), by rw [HR.out, HG.out]; exact Own.nil_ _ _, (be1.alloc be1.size _).trans (hb2.mono (by simp; have := be1.size; omega))⟩
  | some p =>
    have HG := Lib.hid (HS.out p hf)
    obtain ⟨hpl, hpb⟩ := HBd.out p hf
    have HPL := Lib.hid hpl
    have HPB := Lib.hid hpb
    rw [hf] at HP
    obtain ⟨i0, hi, hz0, hz1, hz2⟩ := info_parts infoI
    have HF := Lib.hid (And.intro hi (And.intro hz0 (And.intro hz1 hz2)))
    clear hf hpl hpb hi hz0 hz1 hz2
    go_enter Try.func30, Try.ntmps30
    go_wp2_with fail
    generalize w.alloc (.cells #[.int .i64 (N : Int), .slice A xs.length cp] 31) = w0 at *
    have sz0 : w.heap.size < w0.heap.size := World.block_lt_of_cell? _ _ m1_0
    refine (HB.out _ be0).mono ?_
    rintro e w1 ⟨v, rfl, ho, hb1⟩
    have be1 := be0.trans (hb1.mono be0.size)
    have m1_1 := cell_later hb1 m1_0
    obtain ⟨AV, cv, rfl, -, -⟩ := ho.slice
    have HO := Lib.hid ho
    clear ho m1_0
    go_wp2_with fail
    have B2 : Below w1.heap.size w1 (w1.alloc (.cells #[.int .i64 (N : Int), .slice A xs.length cp, .slice AV (gainL ps ds).length cv, .slice A3 rs.length c3] 85)) := (Below.refl _ _).alloc (Nat.le_refl _) _
    have b1_2 : (w1.alloc (.cells #[.int .i64 (N : Int), .slice A xs.length cp, .slice AV (gainL ps ds).length cv, .slice A3 rs.length c3] 85)).cell? ⟨w1.heap.size, 2, none⟩ = some (.slice AV (gainL ps ds).length cv) := by go_simp
    have be2 := be1.trans (B2.mono be1.size)
    have m1_2 := cell_later B2 m1_1
    have HO2 := Lib.hid (HO.out.later B2)
    clear m1_1 HO
    generalize w1.alloc (.cells #[.int .i64 (N : Int), .slice A xs.length cp, .slice AV (gainL ps ds).length cv, .slice A3 rs.length c3] 85) = w2 at *
    refine (HP.out AV cv _ be2 HO2.out.ints).mono ?_
    rintro e w3 ⟨v, rfl, ho3, hb3⟩
    have be3 := be2.trans (hb3.mono be2.size)
    have m1_3 := cell_later hb3 m1_2
    have b1_3 := cell_later hb3 b1_2
    obtain ⟨AP, cq, hv, -, -⟩ := ho3.slice
    have hpe : (some p : Option (List Int)).getD [] = p := rfl
    rw [hpe] at ho3 hv
    subst hv
    have HO3 := Lib.hid ho3.ints
    have HO2 := Lib.hid (HO2.out.later hb3).ints
    have hw1 : w1.heap.size < w3.heap.size := World.block_lt_of_cell? _ _ b1_3
    have hww : w.heap.size < w3.heap.size := World.block_lt_of_cell? _ _ m1_3
    have M1 := Lib.hid m1_3
    have B1 := Lib.hid b1_3
    clear m1_2 b1_2 ho3 hb3 hb1 B2 hpe HB HP
    go_wp2_with fail
    go_loopw [14, 38] (fun v ii wr => ∃ i : Nat, i ≤ xs.length ∧ ii = .int .i64 i ∧ Below w3.heap.size w3 wr ∧ Own w3.heap.size wr v (regN p xs (gainL ps ds) i)) (fun _ ii _ => xs.length - (intOf ii).toNat)
    case atStart => exact ⟨0, Nat.zero_le _, rfl, Below.refl _ _, Own.nil_ _ _⟩
    case round =>
      obtain ⟨i, hi, rfl, hb, ho⟩ := hrel
      by_cases hil : i < xs.length
      · have m1 := cell_later hb M1.out
        have b1 := cell_later hb B1.out
        have hbw := be3.trans (hb.mono be3.size)
        have hsz := hb.size
        obtain ⟨⟨s, f, t, l, c, r, k⟩, hx⟩ : ∃ x, xs.getD i aNone = x := ⟨_, rfl⟩
        obtain ⟨b, o, hA, hab, c0, c1, c2, c3, c4, c5, c6⟩ := (J0.out.below hbw).cells7 hil hx
        cases hA
        obtain ⟨hE, hft⟩ := HE.out
        obtain ⟨hE1, hE2⟩ := hE i hil
        rw [Int.toNat_natCast] at hE1 hE2
        obtain ⟨hf1, hf2⟩ := hft i hil
        rw [hx] at hf1 hf2
        have hf1 : f = (aF xs i : Int) := hf1
        have hf2 : t = (aT xs i : Int) := hf2
        subst hf1 hf2
        obtain ⟨adp, hAP, hap, hpf⟩ := (HO3.out.below hb).atD (k := aF xs i) (by rw [HPL.out]; exact hE1)
        cases hAP
        obtain ⟨adp', hAP, _, hpt⟩ := (HO3.out.below hb).atD (k := aT xs i) (by rw [HPL.out]; exact hE2)
        cases hAP
        obtain ⟨adg, hAG, hag, hgc⟩ := (HO2.out.below hb).atD (k := i) (by rw [HL2.out]; exact hil)
        cases hAG
        obtain ⟨p1, p2⟩ := HPB.out (aF xs i)
        obtain ⟨p3, p4⟩ := HPB.out (aT xs i)
        obtain ⟨q1, q2⟩ := HG3.out i hil
        have HS := Lib.hid (regN_succ p xs (gainL ps ds) i)
        have HZ : Hid (regG p xs (gainL ps ds) i = p.getD (aF xs i) 0 - p.getD (aT xs i) 0 + (gainL ps ds).getD i 0) := Lib.hid rfl
        have hl : (regN p xs (gainL ps ds) i).length ≤ 24 := by rw [regN_length]; omega
        have hF0 : (0 : Int) ≤ (aF xs i : Int) := by omega
        have hF1 : (aF xs i : Int) < p.length := by rw [HPL.out]; omega
        have hT0 : (0 : Int) ≤ (aT xs i : Int) := by omega
        have hT1 : (aT xs i : Int) < p.length := by rw [HPL.out]; omega
        have hi0 : (0 : Int) ≤ (i : Int) := by omega
        have hi1 : (i : Int) < (gainL ps ds).length := by rw [HL2.out]; omega
        have hi2 : (i : Int) < xs.length := by omega
        have HO := Lib.hid ho
        clear ho hE hft hE1 hE2 hx m1
        generalize p.getD (aF xs i) 0 = x at *
        generalize p.getD (aT xs i) 0 = y at *
        generalize (gainL ps ds).getD i 0 = g at *
        generalize aF xs i = F at *
        generalize aT xs i = T at *
        have hw1 : IntKind.i64.wrap (x - y) = x - y := IntWalk.i64_in _ (by omega)
        have hw2 : IntKind.i64.wrap (x - y + g) = x - y + g := IntWalk.i64_in _ (by omega)
        have B4 : Below wr.heap.size wr (wr.alloc (.cells #[.string s, .int .i64 (F : Int), .int .i64 (T : Int), .int .i64 l, .int .i64 c, .int .i64 r, .int .i64 k] 92)) := (Below.refl _ _).alloc (Nat.le_refl _) _
        have e1 : ((wr.alloc (.cells #[.string s, .int .i64 (F : Int), .int .i64 (T : Int), .int .i64 l, .int .i64 c, .int .i64 r, .int .i64 k] 92))).cell? ⟨wr.heap.size, 1, none⟩ = some (.int .i64 (F : Int)) := by go_simp
        have e2 : ((wr.alloc (.cells #[.string s, .int .i64 (F : Int), .int .i64 (T : Int), .int .i64 l, .int .i64 c, .int .i64 r, .int .i64 k] 92))).cell? ⟨wr.heap.size, 2, none⟩ = some (.int .i64 (T : Int)) := by go_simp
        have ho4 := HO.out.later B4
        have d1 := cell_later B4 b1
        have d2 := cell_later B4 hpf
        have d3 := cell_later B4 hpt
        have d4 := cell_later B4 hgc
        have HO4 := Lib.hid ho4
        have hz4 : wr.heap.size < ((wr.alloc (.cells #[.string s, .int .i64 (F : Int), .int .i64 (T : Int), .int .i64 l, .int .i64 c, .int .i64 r, .int .i64 k] 92))).heap.size := by simp
        go_wp2
        clear ho4 c0 c1 c2 c3 c4 c5 c6 b1 hpf hpt hgc
        generalize (wr.alloc (.cells #[.string s, .int .i64 (F : Int), .int .i64 (T : Int), .int .i64 l, .int .i64 c, .int .i64 r, .int .i64 k] 92)) = w4 at *
        have hsz4 : w3.heap.size ≤ w4.heap.size := by omega
        go_region_held_law (fun w' => (w'.cell? ⟨wr.heap.size, 1, none⟩ = some (.int .i64 (F : Int)) ∧ w'.cell? ⟨wr.heap.size, 2, none⟩ = some (.int .i64 (T : Int))) ∧ (w'.cell? ⟨w1.heap.size, 2, none⟩ = some (.slice (some adg) (gainL ps ds).length cv) ∧ w'.cell? (adg.add i) = some (.int .i64 g)) ∧ (w'.cell? (adp.add F) = some (.int .i64 x) ∧ w'.cell? (adp.add T) = some (.int .i64 y)))
          (first
            | go_keep
            | (go_split_ands
               exact ⟨⟨app_cell2 HO.out hgrow e1 (Nat.le_refl _), app_cell2 HO.out hgrow e2 (Nat.le_refl _)⟩, ⟨app_cell HO4.out hgrow d1 (by simp; omega), app_cell HO4.out hgrow d4 (by rw [block_add]; omega)⟩, app_cell HO4.out hgrow d2 (by rw [block_add]; omega), app_cell HO4.out hgrow d3 (by rw [block_add]; omega)⟩))
          ((refine step_append_lies _ (by rfl) _ _ _ (by rfl) w3.heap.size 2 i0 (.int .i64 0) 1 8 Try.underlying25 HF.out.1 HF.out.2.1 HF.out.2.2.1 HF.out.2.2.2 rfl (by decide) _ _ _ (by rfl) ((HO4.out.alloc _).drew)
              ⟨w4.heap.size, 0, none⟩ 1 1 [.int .i64 (x - y + g)] (by rfl) (by rfl) (World.news_of_block (cs := #[.int .i64 (x - y + g)]) (t := 2) (fr := (0, 0)) (heap_alloc_new w4 _)) (by simp [Value.oneCell'])
              (by omega) (le_max (by omega)) (by omega) (by simp; omega) (w4.heap.size + 1) (by simp) ?_; intro gg cap w5 hown1 hgrow hat hlt'))
        clear hw1 hw2
        go_wp2
        go_roundw
        case rel =>
          have ho' := Own.appended hown1
          rw [← HZ.out, ← HS.out] at ho'
          exact ⟨i + 1, by omega, by go_num, Below.appended2 (hb.trans (B4.mono hsz)) HO4.out hsz4 hgrow, ho'⟩
        case measure => simp [intOf]; omega
      · obtain rfl : i = xs.length := by omega
        have HO := Lib.hid ho
        clear ho
        go_wp2
        go_ret2
        refine ⟨_, ret_vi (by rw [HR.out, HG.out]), ?_, be3.trans (hb.mono be3.size)⟩
        rw [HR.out, HG.out]
        exact HO.out.base (fun g h => by have h1 := (World.ownsRow.lt HO.out g h).1; have := be3.size; omega)
set_option maxRecDepth 100000 in
set_option maxHeartbeats 3200000 in
theorem RegulatorDrops_s (J : Int) (A : Option Addr) (cp : Nat) (xs : List Aw) (A1 : Option Addr) (c1 : Nat) (ds : List Int) (A2 : Option Addr) (c2 : Nat) (ps : List Int) (A3 : Option Addr) (c3 : Nat) (rs : List Bool) (w : World) (hx : (xs.length : Int) ≤ 1048576) (hF : FitsA xs) (hI : Recs encA 7 w.heap.size w A xs) (n1 : (ds.length : Int) ≤ 1048576) (hI1 : Ints w.heap.size w A1 ds) (_ : Fits ds) (n2 : (ps.length : Int) ≤ 1048576) (hI2 : Ints w.heap.size w A2 ps) (_ : Fits ps) (n3 : (rs.length : Int) ≤ 1048576) (hI3 : Bools w.heap.size w A3 rs) :
    Calls Try.prog 29 #[.agg #[.int .i64 J, .slice A xs.length cp], .slice A1 ds.length c1, .slice A2 ps.length c2, .slice A3 rs.length c3] w fun e w' => ∃ v, e = .returned (.tuple #[v, .int .i64 (regF J xs ds ps rs).2]) ∧ Own w.heap.size w' v (regF J xs ds ps rs).1 ∧ Below w.heap.size w w' := by
  obtain ⟨R, hR⟩ : ∃ R, R = regF J xs ds ps rs := ⟨_, rfl⟩
  rw [← hR]
  have HR := Lib.hid hR
  clear hR
  have be0 : Below w.heap.size w (w.alloc (.cells #[.int .i64 J, .slice A xs.length cp] 31)) := by go_grown
  have m0 : (w.alloc (.cells #[.int .i64 J, .slice A xs.length cp] 31)).cell? ⟨w.heap.size, 0, none⟩ = some (.int .i64 J) := by go_simp
  have m1 : (w.alloc (.cells #[.int .i64 J, .slice A xs.length cp] 31)).cell? ⟨w.heap.size, 1, none⟩ = some (.slice A xs.length cp) := by go_simp
  have HQ := Lib.hid (l12Ask_any w.heap.size 0 J A cp xs A1 c1 ds A2 c2 ps A3 c3 rs w.heap.size _ hx hF (hI.below be0) n1 (hI1.below be0) n2 (hI2.below be0) n3 m0 m1)
  by_cases hc : codeF J xs ds ps rs = 0
  rotate_left
  · have HG := Lib.hid (regF_no hc)
    have hc' : (codeF J xs ds ps rs != 0) = true := by simpa using hc
    clear hI hI1 hI2 hI3 hF hc m0 m1
    generalize codeF J xs ds ps rs = q at *
    go_enter Try.func29, Try.ntmps29
    go_wp2_with fail
    refine HQ.out.mono ?_
    rintro e _ ⟨rfl, n, rfl⟩
    have be1 := below_drewN be0 n
    clear be0
    go_wp2_with fail
    go_ret2
    exact ⟨_, ret_vi (by rw [HR.out, HG.out]), by rw [HR.out, HG.out]; exact Own.nil_ _ _, be1⟩
  obtain ⟨hm, hg⟩ := codeF_zero hc
  obtain ⟨N, rfl⟩ := mineB_nat hm
  obtain ⟨g1, g2, g3, g4, g5, g6, g7⟩ := boo_ends hg
  have HP := Lib.hid (fun (n : Nat) => l12Fit_any w.heap.size 0 N A cp xs A1 c1 ds A2 c2 ps A3 c3 rs ((w.alloc (.cells #[.int .i64 (N : Int), .slice A xs.length cp] 31)).drewN n) ((hI.below (below_drewN be0 n)).more (below_drewN be0 n).size) hm
    ((hI1.below (below_drewN be0 n)).more (below_drewN be0 n).size) g4 ((hI2.below (below_drewN be0 n)).more (below_drewN be0 n).size) g5 (gainL ps ds) g6 g7 ((hI3.below (below_drewN be0 n)).more (below_drewN be0 n).size) g2 m0 m1)
  have HN := Lib.hid (fun h => regF_none (J := (N : Int)) (xs := xs) (ds := ds) (ps := ps) (rs := rs) hc h)
  have HS := Lib.hid (fun p h => regF_some (J := (N : Int)) (xs := xs) (ds := ds) (ps := ps) (rs := rs) (p := p) hc h)
  have HBd := Lib.hid (fun p h => fitF_bd (rs := rs) (p := p) hm g3 h)
  have J0 := Lib.hid hI
  have J1 := Lib.hid hI1
  have J2 := Lib.hid hI2
  have L1 := Lib.hid g4
  have L2 := Lib.hid g5
  have HGS := Lib.hid g6
  have HGd := Lib.hid g7
  have HE := Lib.hid (mineB_ends hm)
  have hxn : xs.length ≤ 24 := by have := (mineB_bd hm).2.1; omega
  rw [hc] at HQ
  clear hI hI1 hI2 hI3 hF hc hm hg g1 g2 g3 g4 g5 g6 g7 m0
  cases hf : fitF xs (gainL ps ds) rs (N : Int) with
  | none =>
    have HG := Lib.hid (HN.out hf)
    rw [hf] at HP
    clear hf m1
    go_enter Try.func29, Try.ntmps29
    go_wp2_with fail
    refine HQ.out.mono ?_
    rintro e _ ⟨rfl, n, rfl⟩
    have be1 := below_drewN be0 n
    go_wp2_with fail
    refine (HP.out n).mono ?_
    rintro e w2 ⟨v, rfl, _, hb2⟩
    go_wp2_with fail
    go_ret2
    exact ⟨_, ret_vi (by rw [HR.out, HG.out]), by rw [HR.out, HG.out]; exact Own.nil_ _ _, be1.trans (hb2.mono be1.size)⟩
  | some p =>
    have HG := Lib.hid (HS.out p hf)
    obtain ⟨hpl, hpb⟩ := HBd.out p hf
    have HPL := Lib.hid hpl
    have HPB := Lib.hid hpb
    rw [hf] at HP
    obtain ⟨i0, hi, hz0, hz1, hz2⟩ := info_parts infoI
    have HF := Lib.hid (And.intro hi (And.intro hz0 (And.intro hz1 hz2)))
    clear hf hpl hpb hi hz0 hz1 hz2
    have hm1 : ∀ n, ((w.alloc (.cells #[.int .i64 (N : Int), .slice A xs.length cp] 31)).drewN n).cell? ⟨w.heap.size, 1, none⟩ = some (.slice A xs.length cp) := fun n => m1
    have HM1 := Lib.hid hm1
    clear hm1 m1
    go_enter Try.func29, Try.ntmps29
    go_wp2_with fail
    refine HQ.out.mono ?_
    rintro e _ ⟨rfl, n, rfl⟩
    have be1 := below_drewN be0 n
    have m1_1 := HM1.out n
    go_wp2_with fail
    have HPn := HP.out n
    clear be0
    generalize (w.alloc (.cells #[.int .i64 (N : Int), .slice A xs.length cp] 31)).drewN n = w1 at *
    refine HPn.mono ?_
    rintro e w3 ⟨v, rfl, ho3, hb3⟩
    have be3 := be1.trans (hb3.mono be1.size)
    have m1_3 := cell_later hb3 m1_1
    obtain ⟨AP, cq, hv, -, -⟩ := ho3.slice
    have hpe : (some p : Option (List Int)).getD [] = p := rfl
    rw [hpe] at ho3 hv
    subst hv
    have HO3 := Lib.hid ho3.ints
    have hww : w.heap.size < w3.heap.size := World.block_lt_of_cell? _ _ m1_3
    have M1 := Lib.hid m1_3
    clear m1_1 ho3 hb3 hpe HPn HP HM1 HQ
    go_wp2_with fail
    go_loopw [13, 14] (fun v ii wr => ∃ i : Nat, i ≤ xs.length ∧ ii = .int .i64 i ∧ Below w3.heap.size w3 wr ∧ Own w3.heap.size wr v (regN p xs (gainL ps ds) i)) (fun _ ii _ => xs.length - (intOf ii).toNat)
    case atStart => exact ⟨0, Nat.zero_le _, rfl, (Below.refl _ _).alloc (Nat.le_refl _) _, Own.empty (Nat.le_refl _)⟩
    case round =>
      obtain ⟨i, hi, rfl, hb, ho⟩ := hrel
      have m1 := cell_later hb M1.out
      by_cases hil : i < xs.length
      · have hbw := be3.trans (hb.mono be3.size)
        have hsz := hb.size
        obtain ⟨⟨s, f, t, l, c, r, k⟩, hx⟩ : ∃ x, xs.getD i aNone = x := ⟨_, rfl⟩
        obtain ⟨b, o, hA, hab, -, c1, c2, -⟩ := (J0.out.below hbw).cells7 hil hx
        cases hA
        obtain ⟨hE, hft⟩ := HE.out
        obtain ⟨hE1, hE2⟩ := hE i hil
        rw [Int.toNat_natCast] at hE1 hE2
        obtain ⟨hf1, hf2⟩ := hft i hil
        rw [hx] at hf1 hf2
        have hf1 : f = (aF xs i : Int) := hf1
        have hf2 : t = (aT xs i : Int) := hf2
        subst hf1 hf2
        obtain ⟨adp, hAP, hap, hpf⟩ := (HO3.out.below hb).atD (k := aF xs i) (by rw [HPL.out]; exact hE1)
        cases hAP
        obtain ⟨adp', hAP, _, hpt⟩ := (HO3.out.below hb).atD (k := aT xs i) (by rw [HPL.out]; exact hE2)
        cases hAP
        obtain ⟨ad1, hA1, ha1, hd1⟩ := (J1.out.below hbw).atD (k := i) (by rw [L1.out]; exact hil)
        cases hA1
        obtain ⟨ad2, hA2, ha2, hd2⟩ := (J2.out.below hbw).atD (k := i) (by rw [L2.out]; exact hil)
        cases hA2
        obtain ⟨p1, p2⟩ := HPB.out (aF xs i)
        obtain ⟨p3, p4⟩ := HPB.out (aT xs i)
        obtain ⟨q1, q2, q3, q4⟩ := HGd.out i hil
        have HS := Lib.hid (regN_succ p xs (gainL ps ds) i)
        have HZ : Hid (regG p xs (gainL ps ds) i = p.getD (aF xs i) 0 - p.getD (aT xs i) 0 + ps.getD i 0 - ds.getD i 0) := Lib.hid (by have h := HGS.out i hil; unfold regG; omega)
        have hl : (regN p xs (gainL ps ds) i).length ≤ 24 := by rw [regN_length]; omega
        have hF0 : (0 : Int) ≤ (aF xs i : Int) := by omega
        have hF1 : (aF xs i : Int) < p.length := by rw [HPL.out]; omega
        have hT0 : (0 : Int) ≤ (aT xs i : Int) := by omega
        have hT1 : (aT xs i : Int) < p.length := by rw [HPL.out]; omega
        have hi0 : (0 : Int) ≤ (i : Int) := by omega
        have hi1 : (i : Int) < ds.length := by rw [L1.out]; omega
        have hi3 : (i : Int) < ps.length := by rw [L2.out]; omega
        have hi2 : (i : Int) < xs.length := by omega
        have HO := Lib.hid ho
        clear ho hE hft hE1 hE2 hx
        generalize p.getD (aF xs i) 0 = x at *
        generalize p.getD (aT xs i) 0 = y at *
        generalize ps.getD i 0 = pp at *
        generalize ds.getD i 0 = dd at *
        generalize aF xs i = F at *
        generalize aT xs i = T at *
        have hw1 : IntKind.i64.wrap (x - y) = x - y := IntWalk.i64_in _ (by omega)
        have hw2 : IntKind.i64.wrap (x - y + pp) = x - y + pp := IntWalk.i64_in _ (by omega)
        have hw3 : IntKind.i64.wrap (x - y + pp - dd) = x - y + pp - dd := IntWalk.i64_in _ (by omega)
        go_wp2
        go_region_held_law (fun w' => (w'.cell? ⟨b, o + i * 7 + 1, none⟩ = some (.int .i64 (F : Int)) ∧ w'.cell? ⟨b, o + i * 7 + 2, none⟩ = some (.int .i64 (T : Int))) ∧ (w'.cell? ⟨w.heap.size, 1, none⟩ = some (.slice (some ⟨b, o, none⟩) xs.length cp) ∧ w'.cell? (ad1.add i) = some (.int .i64 dd)) ∧ (w'.cell? (ad2.add i) = some (.int .i64 pp) ∧ (w'.cell? (adp.add F) = some (.int .i64 x) ∧ w'.cell? (adp.add T) = some (.int .i64 y))))
          (first
            | go_keep
            | (go_split_ands
               exact ⟨⟨app_cell HO.out hgrow c1 (by simp; omega), app_cell HO.out hgrow c2 (by simp; omega)⟩, ⟨app_cell HO.out hgrow m1 (by simp; omega), app_cell HO.out hgrow hd1 (by rw [block_add]; omega)⟩, app_cell HO.out hgrow hd2 (by rw [block_add]; omega), app_cell HO.out hgrow hpf (by rw [block_add]; omega), app_cell HO.out hgrow hpt (by rw [block_add]; omega)⟩))
          ((refine step_append_lies _ (by rfl) _ _ _ (by rfl) w3.heap.size 2 i0 (.int .i64 0) 1 8 Try.underlying25 HF.out.1 HF.out.2.1 HF.out.2.2.1 HF.out.2.2.2 rfl (by decide) _ _ _ (by rfl) ((HO.out.alloc _).drew)
              ⟨wr.heap.size, 0, none⟩ 1 1 [.int .i64 (x - y + pp - dd)] (by rfl) (by rfl) (World.news_of_block (cs := #[.int .i64 (x - y + pp - dd)]) (t := 2) (fr := (0, 0)) (heap_alloc_new wr _)) (by simp [Value.oneCell'])
              (by omega) (le_max (by omega)) (by omega) (by simp; omega) (wr.heap.size + 1) (by simp) ?_; intro gg cap w5 hown1 hgrow hat hlt'))
        clear hw1 hw2 hw3
        go_wp2
        go_roundw
        case rel =>
          have ho' := Own.appended hown1
          rw [← HZ.out, ← HS.out] at ho'
          exact ⟨i + 1, by omega, by go_num, Below.appended2 hb HO.out hsz hgrow, ho'⟩
        case measure => simp [intOf]; omega
      · obtain rfl : i = xs.length := by omega
        have HO := Lib.hid ho
        clear ho
        go_wp2
        go_ret2
        refine ⟨_, ret_vi (by rw [HR.out, HG.out]), ?_, be3.trans (hb.mono be3.size)⟩
        rw [HR.out, HG.out]
        exact HO.out.base (fun g h => by have h1 := (World.ownsRow.lt HO.out g h).1; have := be3.size; omega)
end Go.Proofs.Ytlgagnbnjfneaaa
