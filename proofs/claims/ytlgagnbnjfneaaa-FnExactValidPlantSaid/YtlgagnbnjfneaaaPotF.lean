/- Potentials and what regulators take away: the program's and the reference's. Conditions: the facts on memory and on lengths that each theorem names. -/
import Derived.Test.YtlgagnbnjfneaaaFitW
import Derived.Test.YtlgagnbnjfneaaaAsk
import Derived.Test.YtlgagnbnjfneaaaDrops
namespace Go.Proofs.Ytlgagnbnjfneaaa
open Go.RowKit
open Pl
theorem mineB_nat {J : Int} {xs : List Aw} (h : mineB J xs = true) : ∃ N : Nat, J = (N : Int) := ⟨J.toNat, by have := (mineB_bd h).1; omega⟩
theorem boo_ends {xs : List Aw} {ds ps : List Int} {rs : List Bool} (h' : gapB xs.length ds ps rs = true) :
    (gainL ps ds).length = xs.length ∧ rs.length = xs.length ∧ (∀ k, k < xs.length → -1100000 ≤ (gainL ps ds).getD k 0 ∧ (gainL ps ds).getD k 0 ≤ 1100000) ∧ ds.length = xs.length ∧ ps.length = xs.length ∧ (∀ k, k < xs.length → (gainL ps ds).getD k 0 = ps.getD k 0 - ds.getD k 0) ∧
    (∀ k, k < xs.length → -1000000 ≤ ds.getD k 0 ∧ ds.getD k 0 ≤ 1000000 ∧ -50000 ≤ ps.getD k 0 ∧ ps.getD k 0 ≤ 50000) := by
  obtain ⟨a, b, c, d, e⟩ := gapB_in h'
  exact ⟨(gainL_length _ _).trans b, c, fun k hk => by have := gainL_gd b d e k hk; omega, a, b, fun k hk => gainL_at _ _ (by omega), fun k hk => by have := d k hk; have := e k hk; omega⟩
noncomputable def potF (J : Int) (xs : List Aw) (ds ps : List Int) (rs : List Bool) : List Int × Int :=
  if codeF J xs ds ps rs = 0 then ((fitF xs (gainL ps ds) rs J).getD [], if (fitF xs (gainL ps ds) rs J).isSome then 0 else 3) else ([], codeF J xs ds ps rs)
theorem fitGo_len {xs : List Aw} {gs : List Int} {rs : List Bool} {n : Nat} : ∀ (r : Nat) (d : List Int), ((fitGo xs gs rs n r d).getD []).length ≤ d.length
  | 0, _ => by simp [fitGo]
  | r + 1, d => by
    unfold fitGo
    split
    · have := fitGo_len (xs := xs) (gs := gs) (rs := rs) (n := n) r (rnd xs gs rs n d)
      rw [rnd_len] at this
      exact this
    · rw [Option.getD_some, rnd_len]; exact Nat.le_refl _
theorem fitF_len {J : Int} {xs : List Aw} {gs : List Int} {rs : List Bool} : ((fitF xs gs rs J).getD []).length ≤ J.toNat := by
  have := fitGo_len (xs := xs) (gs := gs) (rs := rs) (n := xs.length) (J.toNat + 1) (List.replicate J.toNat 0)
  rw [List.length_replicate] at this
  exact this
theorem codeF_zero {J : Int} {xs : List Aw} {ds ps : List Int} {rs : List Bool} (h : codeF J xs ds ps rs = 0) : mineB J xs = true ∧ gapB xs.length ds ps rs = true := by
  rcases codeF_or J xs ds ps rs with ⟨a, b, _⟩ | h' | h'
  · exact ⟨a, b⟩
  · omega
  · omega
theorem potF_len (J : Int) (xs : List Aw) (ds ps : List Int) (rs : List Bool) : (potF J xs ds ps rs).1.length ≤ 1048576 := by
  unfold potF
  split
  · rename_i h
    have := (mineB_bd (codeF_zero h).1).1
    have := fitF_len (J := J) (xs := xs) (gs := gainL ps ds) (rs := rs)
    show ((fitF xs (gainL ps ds) rs J).getD []).length ≤ _
    omega
  · simp
theorem potF_no {J : Int} {xs : List Aw} {ds ps : List Int} {rs : List Bool} (h : codeF J xs ds ps rs ≠ 0) : potF J xs ds ps rs = ([], codeF J xs ds ps rs) := by unfold potF; rw [if_neg h]
theorem potF_none {J : Int} {xs : List Aw} {ds ps : List Int} {rs : List Bool} (h : codeF J xs ds ps rs = 0) (h' : fitF xs (gainL ps ds) rs J = none) : potF J xs ds ps rs = ([], 3) := by unfold potF; rw [if_pos h, h']; rfl
theorem potF_some {J : Int} {xs : List Aw} {ds ps : List Int} {rs : List Bool} {p : List Int} (h : codeF J xs ds ps rs = 0) (h' : fitF xs (gainL ps ds) rs J = some p) : potF J xs ds ps rs = (p, 0) := by unfold potF; rw [if_pos h, h']; rfl
set_option maxRecDepth 100000 in
set_option maxHeartbeats 1600000 in
theorem PotentialsOf_i (J : Int) (A : Option Addr) (cp : Nat) (xs : List Aw) (A1 : Option Addr) (c1 : Nat) (ds : List Int) (A2 : Option Addr) (c2 : Nat) (ps : List Int) (A3 : Option Addr) (c3 : Nat) (rs : List Bool) (w : World) (hx : (xs.length : Int) ≤ 1048576) (hF : FitsA xs) (hI : Recs encA 7 w.heap.size w A xs) (n1 : (ds.length : Int) ≤ 1048576) (hI1 : Ints w.heap.size w A1 ds) (hT1 : Fits ds) (n2 : (ps.length : Int) ≤ 1048576) (hI2 : Ints w.heap.size w A2 ps) (hT2 : Fits ps) (n3 : (rs.length : Int) ≤ 1048576) (hI3 : Bools w.heap.size w A3 rs) :
    Calls Try.prog 24 #[.agg #[.int .i64 J, .slice A xs.length cp], .slice A1 ds.length c1, .slice A2 ps.length c2, .slice A3 rs.length c3] w fun e w' => ∃ v, e = .returned (.tuple #[v, .int .i64 (potF J xs ds ps rs).2]) ∧ Own w.heap.size w' v (potF J xs ds ps rs).1 ∧ Below w.heap.size w w' := by
  obtain ⟨R, hR⟩ : ∃ R, R = potF J xs ds ps rs := ⟨_, rfl⟩
  rw [← hR]
  have HR := Lib.hid hR
  clear hR
  have be0 : Below w.heap.size w (w.alloc (.cells #[.int .i64 J, .slice A xs.length cp] 31)) := by go_grown
  by_cases hc : codeF J xs ds ps rs = 0
  rotate_left
  · have HG := Lib.hid (potF_no hc)
    have HB := Lib.hid (fun (W : World) (hb : Below w.heap.size w W) => boostersOf_no J A cp xs A1 c1 ds A2 c2 ps A3 c3 rs W hx hF ((hI.below hb).more hb.size) n1 ((hI1.below hb).more hb.size) hT1 n2 ((hI2.below hb).more hb.size) hT2 n3 hc)
    have hc' : (codeF J xs ds ps rs != 0) = true := by simpa using hc
    clear hI hI1 hI2 hI3 hT1 hT2 hF hc
    generalize codeF J xs ds ps rs = q at *
    go_enter Try.func24, Try.ntmps24
    go_wp2_with fail
    generalize w.alloc (.cells #[.int .i64 J, .slice A xs.length cp] 31) = w0 at *
    refine (HB.out _ be0).mono ?_
    rintro e w1 ⟨rfl, hb1⟩
    have be1 := be0.trans (hb1.mono be0.size)
    go_wp2_with fail
    go_ret2
    exact ⟨_, ret_vi (by rw [HR.out, HG.out]), by rw [HR.out, HG.out]; exact Own.nil_ _ _, be1.alloc be1.size _⟩
  obtain ⟨hm, hg⟩ := codeF_zero hc
  obtain ⟨N, rfl⟩ := mineB_nat hm
  obtain ⟨g1, g2, g3, g4, g5, g6, g7⟩ := boo_ends hg
  have HB := Lib.hid (fun (W : World) (hb : Below w.heap.size w W) => boostersOf_yes (N : Int) A cp xs A1 c1 ds A2 c2 ps A3 c3 rs W hx hF ((hI.below hb).more hb.size) n1 ((hI1.below hb).more hb.size) hT1 n2 ((hI2.below hb).more hb.size) hT2 n3 hm hg)
  have HP := Lib.hid (fun (AG : Option Addr) (cg : Nat) (W : World) (hb : Below w.heap.size w W) (hG : Ints W.heap.size W AG (gainL ps ds)) => potentials_any N A cp xs AG cg (gainL ps ds) A3 c3 rs W ((hI.below hb).more hb.size) hm hG g1 g3 ((hI3.below hb).more hb.size) g2)
  have HC := Lib.hid hc
  have HN := Lib.hid (fun h => potF_none (J := (N : Int)) (xs := xs) (ds := ds) (ps := ps) (rs := rs) hc h)
  have HS := Lib.hid (fun p h => potF_some (J := (N : Int)) (xs := xs) (ds := ds) (ps := ps) (rs := rs) (p := p) hc h)
  have HL := Lib.hid g1
  have HL2 := Lib.hid (gainL_length ps ds)
  clear hI hI1 hI2 hI3 hT1 hT2 hF hc hm hg g1 g2 g3 g4 g5 g6 g7
  cases hf : fitF xs (gainL ps ds) rs (N : Int) with
  | none =>
    have HG := Lib.hid (HN.out hf)
    rw [hf] at HP
    clear hf
    go_enter Try.func24, Try.ntmps24
    go_wp2_with fail
    generalize w.alloc (.cells #[.int .i64 (N : Int), .slice A xs.length cp] 31) = w0 at *
    refine (HB.out _ be0).mono ?_
    rintro e w1 ⟨v, rfl, ho, hb1⟩
    have be1 := be0.trans (hb1.mono be0.size)
    obtain ⟨AV, cv, rfl, -, -⟩ := ho.slice
    have HO := Lib.hid ho
    clear ho
    go_wp2_with fail
    refine (HP.out AV cv _ (be1.alloc be1.size _) (HO.out.later ((Below.refl _ _).alloc (Nat.le_refl _) _)).ints).mono ?_
    rintro e w2 ⟨v, rfl, _, hb2⟩
    go_wp2_with fail
    go_ret2
    exact ⟨_, ret_vi (by rw [HR.out, HG.out]), by rw [HR.out, HG.out]; exact Own.nil_ _ _, (be1.alloc be1.size _).trans (hb2.mono (by simp; have := be1.size; omega))⟩
  | some p =>
    have HG := Lib.hid (HS.out p hf)
    rw [hf] at HP
    clear hf
    go_enter Try.func24, Try.ntmps24
    go_wp2_with fail
    generalize w.alloc (.cells #[.int .i64 (N : Int), .slice A xs.length cp] 31) = w0 at *
    refine (HB.out _ be0).mono ?_
    rintro e w1 ⟨v, rfl, ho, hb1⟩
    have be1 := be0.trans (hb1.mono be0.size)
    obtain ⟨AV, cv, rfl, -, -⟩ := ho.slice
    have HO := Lib.hid ho
    clear ho
    go_wp2_with fail
    refine (HP.out AV cv _ (be1.alloc be1.size _) (HO.out.later ((Below.refl _ _).alloc (Nat.le_refl _) _)).ints).mono ?_
    rintro e w2 ⟨v, rfl, ho2, hb2⟩
    have HO2 := Lib.hid ho2
    clear ho2
    go_wp2_with fail
    go_ret2
    refine ⟨_, ret_vi (by rw [HR.out, HG.out]), ?_, (be1.alloc be1.size _).trans (hb2.mono (by simp; have := be1.size; omega))⟩
    rw [HR.out, HG.out]
    exact HO2.out.base (fun g h => by have h1 := (World.ownsRow.lt HO2.out g h).1; simp at h1; have := be1.size; omega)
set_option maxRecDepth 100000 in
set_option maxHeartbeats 1600000 in
theorem PotentialsOf_s (J : Int) (A : Option Addr) (cp : Nat) (xs : List Aw) (A1 : Option Addr) (c1 : Nat) (ds : List Int) (A2 : Option Addr) (c2 : Nat) (ps : List Int) (A3 : Option Addr) (c3 : Nat) (rs : List Bool) (w : World) (hx : (xs.length : Int) ≤ 1048576) (hF : FitsA xs) (hI : Recs encA 7 w.heap.size w A xs) (n1 : (ds.length : Int) ≤ 1048576) (hI1 : Ints w.heap.size w A1 ds) (_ : Fits ds) (n2 : (ps.length : Int) ≤ 1048576) (hI2 : Ints w.heap.size w A2 ps) (_ : Fits ps) (n3 : (rs.length : Int) ≤ 1048576) (hI3 : Bools w.heap.size w A3 rs) :
    Calls Try.prog 22 #[.agg #[.int .i64 J, .slice A xs.length cp], .slice A1 ds.length c1, .slice A2 ps.length c2, .slice A3 rs.length c3] w fun e w' => ∃ v, e = .returned (.tuple #[v, .int .i64 (potF J xs ds ps rs).2]) ∧ Own w.heap.size w' v (potF J xs ds ps rs).1 ∧ Below w.heap.size w w' := by
  obtain ⟨R, hR⟩ : ∃ R, R = potF J xs ds ps rs := ⟨_, rfl⟩
  rw [← hR]
  have HR := Lib.hid hR
  clear hR
  have be0 : Below w.heap.size w (w.alloc (.cells #[.int .i64 J, .slice A xs.length cp] 31)) := by go_grown
  have m0 : (w.alloc (.cells #[.int .i64 J, .slice A xs.length cp] 31)).cell? ⟨w.heap.size, 0, none⟩ = some (.int .i64 J) := by go_simp
  have m1 : (w.alloc (.cells #[.int .i64 J, .slice A xs.length cp] 31)).cell? ⟨w.heap.size, 1, none⟩ = some (.slice A xs.length cp) := by go_simp
  have HQ := Lib.hid (l12Ask_any w.heap.size 0 J A cp xs A1 c1 ds A2 c2 ps A3 c3 rs w.heap.size _ hx hF (hI.below be0) n1 (hI1.below be0) n2 (hI2.below be0) n3 m0 m1)
  by_cases hc : codeF J xs ds ps rs = 0
  rotate_left
  · have HG := Lib.hid (potF_no hc)
    have hc' : (codeF J xs ds ps rs != 0) = true := by simpa using hc
    clear hI hI1 hI2 hI3 hF hc m0 m1
    generalize codeF J xs ds ps rs = q at *
    go_enter Try.func22, Try.ntmps22
    go_wp2_with fail
    refine HQ.out.mono ?_
    rintro e _ ⟨rfl, n, rfl⟩
    have be1 := below_drewN be0 n
    clear be0
    go_wp2_with fail
    go_ret2
    exact ⟨_, ret_vi (by rw [HR.out, HG.out]), by rw [HR.out, HG.out]; exact Own.nil_ _ _, be1⟩
  obtain ⟨hm, hg⟩ := codeF_zero hc
  obtain ⟨N, rfl⟩ := mineB_nat hm
  obtain ⟨g1, g2, g3, g4, g5, g6, g7⟩ := boo_ends hg
  have HP := Lib.hid (fun (n : Nat) => l12Fit_any w.heap.size 0 N A cp xs A1 c1 ds A2 c2 ps A3 c3 rs ((w.alloc (.cells #[.int .i64 (N : Int), .slice A xs.length cp] 31)).drewN n) ((hI.below (below_drewN be0 n)).more (below_drewN be0 n).size) hm
    ((hI1.below (below_drewN be0 n)).more (below_drewN be0 n).size) g4 ((hI2.below (below_drewN be0 n)).more (below_drewN be0 n).size) g5 (gainL ps ds) g6 g7 ((hI3.below (below_drewN be0 n)).more (below_drewN be0 n).size) g2 m0 m1)
  have HC := Lib.hid hc
  have HN := Lib.hid (fun h => potF_none (J := (N : Int)) (xs := xs) (ds := ds) (ps := ps) (rs := rs) hc h)
  have HS := Lib.hid (fun p h => potF_some (J := (N : Int)) (xs := xs) (ds := ds) (ps := ps) (rs := rs) (p := p) hc h)
  rw [hc] at HQ
  clear hI hI1 hI2 hI3 hF hc hm hg g1 g2 g3 g4 g5 g6 g7 m0 m1
  cases hf : fitF xs (gainL ps ds) rs (N : Int) with
  | none =>
    have HG := Lib.hid (HN.out hf)
    rw [hf] at HP
    clear hf
    go_enter Try.func22, Try.ntmps22
    go_wp2_with fail
    refine HQ.out.mono ?_
    rintro e _ ⟨rfl, n, rfl⟩
    have be1 := below_drewN be0 n
    go_wp2_with fail
    refine (HP.out n).mono ?_
    rintro e w2 ⟨v, rfl, _, hb2⟩
    go_wp2_with fail
    go_ret2
    exact ⟨_, ret_vi (by rw [HR.out, HG.out]), by rw [HR.out, HG.out]; exact Own.nil_ _ _, be1.trans (hb2.mono be1.size)⟩
  | some p =>
    have HG := Lib.hid (HS.out p hf)
    rw [hf] at HP
    clear hf
    go_enter Try.func22, Try.ntmps22
    go_wp2_with fail
    refine HQ.out.mono ?_
    rintro e _ ⟨rfl, n, rfl⟩
    have be1 := below_drewN be0 n
    go_wp2_with fail
    refine (HP.out n).mono ?_
    rintro e w2 ⟨v, rfl, ho2, hb2⟩
    have HO2 := Lib.hid ho2
    clear ho2
    go_wp2_with fail
    go_ret2
    refine ⟨_, ret_vi (by rw [HR.out, HG.out]), ?_, be1.trans (hb2.mono be1.size)⟩
    rw [HR.out, HG.out]
    exact HO2.out.base (fun g h => by have h1 := (World.ownsRow.lt HO2.out g h).1; have := be1.size; omega)
end Go.Proofs.Ytlgagnbnjfneaaa
