/- Proved here: the parts NetG, NetE, FloP, Err, Errs of the row's proof, joined by a program. Conditions: as each part says. -/
import Derived.Test.YtejkoicgbgoiaaaGreatFl7
import Derived.Deep.LoopGhost
import Derived.BigQuiet
/- Networks: the walk along the fewest of some airways, by the program. Conditions: the facts on memory and on lengths that each theorem names. -/
namespace Go.Proofs.YtejkoicgbgoiaaaGreat
open Go.RowKit Go.Maps
open Pl
theorem drop_cons' {Q : List Int} {h : Nat} (hh : h < Q.length) : Q.drop h = Q.getD h 0 :: Q.drop (h + 1) := by
  rw [List.drop_eq_getElem_cons hh, getD_pt hh]
theorem drop_push {Q : List Int} {h : Nat} {v : Int} (hh : h ≤ Q.length) : (Q ++ [v]).drop h = Q.drop h ++ [v] := List.drop_append_of_le_length hh
/-- The head of a queue that is not empty. -/
theorem Que.head {base : Nat} {w : World} {g h n cap i : Nat} {Q : List Int} (q : Que base w g h n cap (Q.drop i)) (hi : i < Q.length) : w.cell? ⟨g, h, none⟩ = some (.int .i64 (Q.getD i 0)) := by
  have h1 := q.len
  rw [List.length_drop] at h1
  have := q.cell 0 (by omega)
  rw [drop_cons' hi] at this
  exact this
theorem Que.next {base : Nat} {w : World} {g h cap i : Nat} {Q : List Int} (q : Que base w g h (Q.length - i) cap (Q.drop i)) (hi : i < Q.length) : Que base w g (h + 1) (Q.length - (i + 1)) (cap - 1) (Q.drop (i + 1)) := by
  rw [drop_cons' hi, show Q.length - i = Q.length - (i + 1) + 1 by omega] at q
  exact q.tail
theorem Que.last {base : Nat} {w : World} {g h i : Nat} {Q : List Int} (q : Que base w g h (Q.length - i) 1 (Q.drop i)) : Que base w g h (Q.length - (i + 1)) 0 (Q.drop (i + 1)) := by
  have := q.le
  rw [show Q.length - (i + 1) = 0 by omega, List.drop_eq_nil_of_le (by omega)]
  exact Que.none_ q.ge q.lt
set_option maxRecDepth 100000 in
set_option maxHeartbeats 6400000 in
theorem path_any (N : Nat) (A : Option Addr) (cp : Nat) (xs : List Aw) (a to : Nat) (AE : Option Addr) (ce : Nat) (es : List Int) (w : World) (hI : Recs encA 7 w.heap.size w A xs) (hm : mineB (N : Int) xs = true) (hE : Ints w.heap.size w AE es) (hok : IdxOk xs.length es) (hel : es.length ≤ 24) (ha : a < N) (hto : to < N) :
    Calls Tryz.prog 128 #[.agg #[.int .i64 (N : Int), .slice A xs.length cp], .int .i64 (a : Int), .int .i64 (to : Int), .slice AE es.length ce] w fun e w' => ∃ u, e = .returned (.tuple #[u, .bool (pathF N (edsA xs es) a to).2]) ∧ Own w.heap.size w' u (pathF N (edsA xs es) a to).1 ∧ Below w.heap.size w w' := by
  obtain ⟨R, hR⟩ : ∃ R, R = pathF N (edsA xs es) a to := ⟨_, rfl⟩
  rw [← hR]
  have HR := Lib.hid hR
  clear hR
  obtain ⟨⟨n1, n2⟩, nx, _⟩ := mineB_bd hm
  have HE := Lib.hid (fun p (hp : p < xs.length) => mine_ends hm hp)
  have HG := Lib.hid (edsA_in hm hok)
  have HGL := Lib.hid (edsA_length xs es)
  have HK := Lib.hid hok
  have HM := Lib.hid hm
  have hN1 : 1 ≤ N := by omega
  have hN2 : N ≤ 16 := by omega
  have hxn : xs.length ≤ 24 := by omega
  obtain ⟨i0, hi, hz0, hz1, hz2⟩ := info_parts infoI
  have HF := Lib.hid (And.intro hi (And.intro hz0 (And.intro hz1 hz2)))
  have be0 : Below w.heap.size w (w.alloc (.cells #[.int .i64 (N : Int), .slice A xs.length cp] 33)) := by go_grown
  have k0 : (w.alloc (.cells #[.int .i64 (N : Int), .slice A xs.length cp] 33)).cell? ⟨w.heap.size, 0, none⟩ = some (.int .i64 (N : Int)) := by go_simp
  have k1 : (w.alloc (.cells #[.int .i64 (N : Int), .slice A xs.length cp] 33)).cell? ⟨w.heap.size, 1, none⟩ = some (.slice A xs.length cp) := by go_simp
  have K0 := Lib.hid k0
  have K1 := Lib.hid k1
  have J0 := Lib.hid ((hI.below be0).more be0.size)
  have JE := Lib.hid ((hE.below be0).more be0.size)
  have HZ0 : Hid (w.heap.size + 1 = (w.alloc (.cells #[.int .i64 (N : Int), .slice A xs.length cp] 33)).heap.size) := Lib.hid (by simp)
  have hmade := World.ownsMap_made (w.alloc (.cells #[.int .i64 (N : Int), .slice A xs.length cp] 33)) Tryz.prog 2 (plainElem (H := Unit) Tryz.prog 3)
  have hszz : (w.alloc (.cells #[.int .i64 (N : Int), .slice A xs.length cp] 33)).heap.size = w.heap.size + 1 := by simp
  rw [hszz] at hmade
  have HMade := Lib.hid hmade
  clear hI hm hE hok n1 n2 nx hi hz0 hz1 hz2 k0 k1 hmade hszz
  have hmm := @run_makeMap Tryz.prog
  go_enter Tryz.func128, Tryz.ntmps128
  go_wp2_with (refine wpList_insert_own _ rfl _ _ _ 172 rfl 2 3 lawI Tryz.underlying172 _ (w.heap.size + 1) 0 (.map []) rfl HMade.out (by decide) _ _ _ rfl rfl (keyOf_int_mk Tryz.underlying2 (WalkArith.wf_i64 (by omega))) _ [] (plainElem_int Tryz.underlying3 (by decide)) ?_; intro w1 hown1 hgrow1)
  clear hmm HMade
  generalize hw0 : (w.alloc (.cells #[.int .i64 (N : Int), .slice A xs.length cp] 33)) = w0 at *
  clear hw0
  rw [HZ0.out] at hown1 hgrow1
  have hb1 : Below w0.heap.size w0 w1 := ((Below.refl _ _).alloc (Nat.le_refl _) _).grown hgrow1 (by simp) (fun j hj => by cases hj; exact Nat.le_refl _)
  have HH1 : Hid (Holds w1 w0.heap.size 1 (fun x => if x = (to : Int) then some 0 else none)) := Lib.hid (Holds.step MapIs.empty hown1)
  have hlt1 : w0.heap.size < w1.heap.size := hown1.lt
  clear hown1 hgrow1
  have HZw : Hid (w.heap.size + 1 = w0.heap.size) := HZ0
  have hww : w.heap.size < w0.heap.size := by have := HZ0.out; omega
  rw [HZ0.out]
  go_loopg [11] N (fun kx u wr => ∃ (Q : List Int) (D : List Nat) (h : Nat) (g : Int → Option Nat) (gq hq cap : Nat), Bfs N (edsA xs es) (to : Int) Q D h g ∧ u = .slice (some ⟨gq, hq, none⟩) (Q.length - h) cap ∧ Que w1.heap.size wr gq hq (Q.length - h) cap (Q.drop h) ∧ Holds wr w0.heap.size Q.length g ∧ Below w0.heap.size w0 wr ∧ w1.heap.size ≤ wr.heap.size ∧ N - h ≤ kx)
  case atStart =>
    refine ⟨[(to : Int)], [0], 0, _, w1.heap.size, 0, 1, Bfs.init (by omega) (by omega), rfl, Que.one _ (Nat.le_refl _), HH1.out.later ((Below.refl _ _).alloc (Nat.le_refl _) _), hb1.alloc (by omega) _, by simp, by omega⟩
  case round =>
    obtain ⟨Q, D, h, g, gq, hq, cap, hS, rfl, hQ, hH, hb, hsz1, hkx⟩ := hrel
    have hQl := hS.short
    have hhl := hS.hle
    by_cases hlt : h < Q.length
    · have HQh := Lib.hid hQ
      have hw0r : w0.heap.size < wr.heap.size := by omega
      obtain ⟨x, hx⟩ : ∃ x, Q.getD h 0 = x := ⟨_, rfl⟩
      have HX := Lib.hid hx
      have hnb : decide ((0 : Int) < ((Q.length - h : Nat) : Int)) = true := decide_eq_true (by omega)
      have hnb2 : decide (0 < Q.length - h) = true := decide_eq_true (by omega)
      clear hQ hx
      obtain ⟨wo, hwo⟩ : ∃ wo : World, wo = wr := ⟨_, rfl⟩
      subst hwo
      go_wp2
      go_loopw [11, 38] (fun u pp wi => ∃ (Q : List Int) (D : List Nat) (g : Int → Option Nat) (gq hq cap p : Nat), Bfs N (edsA xs es) (to : Int) Q D h g ∧ h < Q.length ∧ Q.getD h 0 = x ∧ (∀ k, k < p → ∀ v, oth ((edsA xs es).getD k eNone) x = some v → v ∈ Q) ∧ p ≤ es.length ∧ pp = .int .i64 p ∧ u = .slice (some ⟨gq, hq, none⟩) (Q.length - h) cap ∧ Que w1.heap.size wi gq hq (Q.length - h) cap (Q.drop h) ∧ Holds wi w0.heap.size Q.length g ∧ Below w0.heap.size w0 wi ∧ w1.heap.size ≤ wi.heap.size) (fun _ pp _ => es.length - (intOf pp).toNat)
      case atStart => exact ⟨Q, D, g, gq, hq, cap, 0, hS, hlt, HX.out, fun k hk => by omega, Nat.zero_le _, rfl, rfl, HQh.out, hH, hb, hsz1⟩
      case round =>
        clear hS hH HQh
        obtain ⟨Q, D, g, gq, hq, cap, p, hS, hhQ, hx, hdone, hp, rfl, rfl, hQ, hH, hb2, hsz2⟩ := hrel
        have hQN := hS.short
        have m1 := cell_later hb2 K1.out
        by_cases hpl : p < es.length
        · have cx := hQ.head hhQ
          rw [hx] at cx
          obtain ⟨z, hz, hzx⟩ := HK.out p hpl
          obtain ⟨ad2, hAE, _, ce0⟩ := (JE.out.below hb2).atD hpl
          subst hAE
          rw [hz] at ce0
          obtain ⟨⟨s, f, t, l, c, r, q⟩, hax⟩ : ∃ x, xs.getD z aNone = x := ⟨_, rfl⟩
          obtain ⟨b, o, hA, hab, c0, c1, c2, c3, c4, c5, c6⟩ := (J0.out.below hb2).cells7 hzx hax
          subst hA
          have hed : (edsA xs es).getD p eNone = ⟨(z : Int), f, t⟩ := by rw [edsA_get hpl]; unfold edA; rw [hz, Int.toNat_natCast, hax]
          have HED := Lib.hid hed
          have HDN := Lib.hid hdone
          have HXe := Lib.hid hx
          have HV := Lib.hid (fun W => other_any s f t l c r q x (z : Int) W)
          have i0' : (0 : Int) ≤ (p : Int) := by omega
          have i1' : (p : Int) < es.length := by omega
          have z0 : (0 : Int) ≤ (z : Int) := by omega
          have z1 : (z : Int) < xs.length := by omega
          have hl0 : (0 : Int) < ((Q.length - h : Nat) : Int) := by omega
          have hl1 : 0 < Q.length - h := by omega
          have hsz := hb2.size
          have g1 := fun L : Later wr => L.cell m1
          have gx := fun L : Later wr => L.cell cx
          have ge := fun L : Later wr => L.cell ce0
          have g20 := fun L : Later wr => L.cell c0
          have g21 := fun L : Later wr => L.cell c1
          have g22 := fun L : Later wr => L.cell c2
          have g23 := fun L : Later wr => L.cell c3
          have g24 := fun L : Later wr => L.cell c4
          have g25 := fun L : Later wr => L.cell c5
          have g26 := fun L : Later wr => L.cell c6
          have HS := Lib.hid hS
          have HQ2 := Lib.hid hQ
          have HH := Lib.hid hH
          clear hS hQ hH hed hx hz hax hdone
          cases ho : oth ⟨(z : Int), f, t⟩ x with
          | none =>
            rw [ho] at HV
            have HN : Hid (∀ k, k < p + 1 → ∀ v, oth ((edsA xs es).getD k eNone) x = some v → v ∈ Q) := Lib.hid (fun k hk v hv => by
              by_cases e : k = p
              · subst e; rw [HED.out, ho] at hv; cases hv
              · exact HDN.out k (by omega) v hv)
            clear ho
            go_wp2
            refine wp_region_later (by kernel_rfl) (by kernel_rfl) ?_
            repeat (go_big_quiet_step ((go_at_call 161; first | (with_reducible exact later_b (HV.out _)) | (with_reducible exact later_d (HV.out _)) | (with_reducible exact later_s (HV.out _)))))
            refine wpQuiet_nil ?_
            intro _ hw'
            obtain ⟨LL, hw''⟩ := hw'
            subst hw''
            have hlk := (HH.out.later LL.below).look_ok (v := 0) (by omega)
            have HB3 := Lib.hid (hb2.trans (LL.below.mono hsz))
            have hsz3 := LL.below.size
            have HQ3 := Lib.hid (HQ2.out.later LL.below)
            have HH3 := Lib.hid (HH.out.later LL.below)
            clear g1 gx ge g20 g21 g22 g23 g24 g25 g26
            generalize LL.world = wd at *
            go_wp2
            go_roundw
            case rel => exact ⟨Q, D, g, gq, hq, cap, p + 1, HS.out, hhQ, HXe.out, HN.out, by omega, by go_num, rfl, HQ3.out, HH3.out, HB3.out, by omega⟩
            case measure => simp [intOf]; omega
          | some v =>
            rw [ho] at HV
            have hvr : 0 ≤ v ∧ v < N := by
              obtain ⟨hf, ht⟩ := HG.out p (by rw [HGL.out]; exact hpl)
              rw [HED.out] at hf ht
              rcases oth_cases ho with ⟨_, e⟩ | ⟨_, _, e⟩
              · rw [e]; exact ht
              · rw [e]; exact hf
            have hed' : oth ((edsA xs es).getD p eNone) x = some v := by rw [HED.out]; exact ho
            have HO := Lib.hid hed'
            clear ho hed'
            by_cases hq : v ∈ Q
            · have hgs : (g v).isSome = true := (HS.out.mem v).2 hq
              have HN : Hid (∀ k, k < p + 1 → ∀ v, oth ((edsA xs es).getD k eNone) x = some v → v ∈ Q) := Lib.hid (fun k hk v' hv => by
                by_cases e : k = p
                · subst e; rw [HO.out] at hv; injection hv with hv; subst hv; exact hq
                · exact HDN.out k (by omega) v' hv)
              clear hq
              go_wp2
              refine wp_region_later (by kernel_rfl) (by kernel_rfl) ?_
              repeat (go_big_quiet_step ((go_at_call 161; first | (with_reducible exact later_b (HV.out _)) | (with_reducible exact later_d (HV.out _)) | (with_reducible exact later_s (HV.out _)))))
              refine wpQuiet_nil ?_
              intro _ hw'
              obtain ⟨LL, hw''⟩ := hw'
              subst hw''
              have hlk := (HH.out.later LL.below).look_ok (v := v) (by omega)
              rw [hgs] at hlk
              have HB3 := Lib.hid (hb2.trans (LL.below.mono hsz))
              have hsz3 := LL.below.size
              have HQ3 := Lib.hid (HQ2.out.later LL.below)
              have HH3 := Lib.hid (HH.out.later LL.below)
              clear g1 gx ge g20 g21 g22 g23 g24 g25 g26
              generalize LL.world = wd at *
              go_wp2
              go_roundw
              case rel => exact ⟨Q, D, g, gq, hq, cap, p + 1, HS.out, hhQ, HXe.out, HN.out, by omega, by go_num, rfl, HQ3.out, HH3.out, HB3.out, by omega⟩
              case measure => simp [intOf]; omega
            · have hgs : (g v).isSome = false := by
                cases e : (g v).isSome
                · rfl
                · exact absurd ((HS.out.mem v).1 e) hq
              have hgx : g x = some (D.getD h 0) := by rw [← HXe.out]; exact HS.out.at_ hhQ
              have hxr := HS.out.rng x (by rw [← HXe.out]; exact mem_getD hhQ)
              have hdh := HS.out.idx h hhQ
              have HPu := Lib.hid (HS.out.push HG.out hhQ (by rw [HGL.out]; exact hpl) (v := v) (by rw [HXe.out]; exact HO.out) hq)
              have HN : Hid (∀ k, k < p + 1 → ∀ v', oth ((edsA xs es).getD k eNone) x = some v' → v' ∈ Q ++ [v]) := Lib.hid (fun k hk v' hv => by
                by_cases e : k = p
                · subst e; rw [HO.out] at hv; injection hv with hv; subst hv; simp
                · exact List.mem_append_left _ (HDN.out k (by omega) v' hv))
              clear hq
              generalize D.getD h 0 = d at *
              go_wp2
              refine wp_region_later (by kernel_rfl) (by kernel_rfl) ?_
              repeat (go_big_quiet_step ((go_at_call 161; first | (with_reducible exact later_b (HV.out _)) | (with_reducible exact later_d (HV.out _)) | (with_reducible exact later_s (HV.out _)))))
              refine wpQuiet_nil ?_
              intro _ hw'
              obtain ⟨LL, hw''⟩ := hw'
              subst hw''
              have hlk := (HH.out.later LL.below).look_ok (v := v) (by omega)
              rw [hgs] at hlk
              have hl2 := (HH.out.later LL.below).look (v := x) (by omega)
              rw [hgx] at hl2
              have hl2 : (Instr.lookup 172 (.map (some w0.heap.size)) (.int .i64 x) false).run Tryz.prog LL.world = .ok (.int .i64 (d : Int)) LL.world := hl2
              have cx3 := LL.cell cx
              have HB3 := Lib.hid (hb2.trans (LL.below.mono hsz))
              have hsz3 := LL.below.size
              have HQ3 := Lib.hid (HQ2.out.later LL.below)
              obtain ⟨DW, hownD, hIs⟩ := HH.out.later LL.below
              have HOD := Lib.hid hownD
              have HIs := Lib.hid hIs
              have hgq : w1.heap.size ≤ gq := HQ3.out.ge
              clear g1 gx ge g20 g21 g22 g23 g24 g25 g26 hownD hIs
              generalize LL.world = wd at *
              go_wp2_with (first
                | (at_mapUpdate; refine wpList_mapUpdate_own _ rfl _ _ _ 172 rfl 2 3 lawI Tryz.underlying172 _ w0.heap.size Q.length DW rfl HOD.out (by unfold maxLen; omega) _ _ _ rfl rfl (keyOf_int_mk Tryz.underlying2 (WalkArith.wf_i64 (by omega))) _ [] (plainElem_int Tryz.underlying3 (WalkArith.wf_i64 (by omega))) ?_; intro w4 hown4 hgrow4; have HQ4 := Lib.hid (HQ3.out.kept hgrow4.size (hgrow4.block gq HQ3.out.lt (fun e => by injection e with e; omega))); have hsz4 : w1.heap.size ≤ w4.heap.size := Nat.le_trans (by omega) hgrow4.size; have HO4 := Lib.hid hown4; have HG4 := Lib.hid hgrow4; clear hown4 hgrow4)
                | (at_builtin; refine wpList_append_que _ rfl _ _ 25 rfl i0 Tryz.underlying25 HF.out.1 HF.out.2.1 HF.out.2.2.1 HF.out.2.2.2 w1.heap.size gq hq (Q.length - h) cap (Q.drop h) rfl (HQ4.out.later ((Below.refl _ _).alloc (Nat.le_refl _) _)) ⟨w4.heap.size, 0, none⟩ v rfl (cell_one_new _ _ _) (by omega) (by simp; omega) ?_; intro g5 h5 cap5 w5 hq5 hb5))
              have hb45 : Below w1.heap.size w4 w5 := ((Below.refl _ w4).alloc hsz4 _).trans hb5
              have HH5 : Hid (Holds w5 w0.heap.size (Q.length + 1) (fun y => if y = v then some (d + 1) else g y)) := Lib.hid ((Holds.step (d := d + 1) HIs.out HO4.out).kept (hb45.block _ hlt1))
              have HB5 := Lib.hid ((HB3.out.grown HG4.out (by omega) (fun j hj => by cases hj; exact Nat.le_refl _)).trans (hb45.mono (by omega)))
              have hsz5 : w1.heap.size ≤ w5.heap.size := Nat.le_trans hsz4 hb45.size
              have hlen : (Q ++ [v]).length = Q.length + 1 := by simp
              have heq : (Q ++ [v]).length - h = Q.length - h + 1 := by rw [hlen]; omega
              have HQ5 : Hid (Que w1.heap.size w5 g5 h5 ((Q ++ [v]).length - h) cap5 ((Q ++ [v]).drop h)) := Lib.hid (by rw [heq, drop_push (by omega)]; exact hq5)
              have HL := Lib.hid hlen
              have HE2 := Lib.hid heq
              clear hq5 hb5 hb45 HO4 HG4 hlen heq
              go_roundw
              case rel => exact ⟨Q ++ [v], D ++ [d + 1], _, g5, h5, cap5, p + 1, HPu.out, by rw [HL.out]; omega, by rw [getD_app hhQ]; exact HXe.out, HN.out, by omega, by go_num, by rw [HE2.out], HQ5.out, by rw [HL.out]; exact HH5.out, HB5.out, hsz5⟩
              case measure => simp [intOf]; omega
        · obtain rfl : p = es.length := by omega
          have HS := Lib.hid (hS.next hhQ (fun k hk v hv => hdone k (by rw [← HGL.out]; exact hk) v (by rw [← hx]; exact hv)))
          have HQ2 := Lib.hid hQ
          have HH := Lib.hid hH
          clear hS hQ hH
          obtain ⟨hh, rfl⟩ : ∃ hh, hh = h := ⟨_, rfl⟩
          go_wp2
          · go_roundg (N - (hh + 1))
            case measure => omega
            case rel => exact ⟨Q, D, hh + 1, g, gq, hq, 0, HS.out, by rw [Nat.sub_sub], Que.last (by have h2 := HQ2.out; rw [show cap = 1 by omega] at h2; exact h2), HH.out, hb2, hsz2, by omega⟩
          · go_roundg (N - (hh + 1))
            case measure => omega
            case rel => exact ⟨Q, D, hh + 1, g, gq, hq + 1, cap - 1, HS.out, by rw [Nat.sub_sub], HQ2.out.next hhQ, HH.out, hb2, hsz2, by omega⟩
    · obtain rfl : h = Q.length := by omega
      have hgv : ∀ v, g v = if 0 ≤ dst (edsA xs es) to N v then some (dst (edsA xs es) to N v).toNat else none := hS.end_
      have HGV := Lib.hid hgv
      have HS := Lib.hid hS
      have HH := Lib.hid hH
      have hzz : Q.length - Q.length = 0 := by omega
      rw [hzz]
      clear hS hH hQ hgv hzz
      have hlk := HH.out.look_ok (v := (a : Int)) (by omega)
      obtain ⟨x, hxa⟩ : ∃ x, dst (edsA xs es) to N a = x := ⟨_, rfl⟩
      have hbd := dst_or (edsA xs es) to N a
      rw [hxa] at hbd
      have HXA := Lib.hid hxa
      by_cases hx0 : 0 ≤ x
      rotate_left
      · have HN : Hid (R = ([], false)) := Lib.hid (by rw [HR.out]; unfold pathF; rw [if_neg (by rw [HXA.out]; omega)])
        rw [HGV.out (a : Int), if_neg (by rw [HXA.out]; exact hx0)] at hlk
        have hlk2 : (Instr.lookup 172 (.map (some w0.heap.size)) (.int .i64 (a : Int)) true).run Tryz.prog wr = .ok (.tuple #[.int .i64 0, .bool false]) wr := hlk
        clear hlk hxa
        go_wp2
        go_ret2
        refine ⟨.slice none 0 0, ret_vb (by rw [HN.out]), ?_, be0.trans (hb.mono be0.size)⟩
        rw [HN.out]; exact Own.nil_ _ _
      have HN : Hid (R = (walkF (edsA xs es) (dst (edsA xs es) to N) x.toNat a, true)) := Lib.hid (by rw [HR.out]; unfold pathF; rw [if_pos (by rw [HXA.out]; exact hx0), HXA.out])
      rw [HGV.out (a : Int), if_pos (by rw [HXA.out]; exact hx0), HXA.out] at hlk
      have hlk2 : (Instr.lookup 172 (.map (some w0.heap.size)) (.int .i64 (a : Int)) true).run Tryz.prog wr = .ok (.tuple #[.int .i64 ((x.toNat : Nat) : Int), .bool true]) wr := hlk
      clear hlk hxa
      obtain ⟨wo, hwo⟩ : ∃ wo : World, wo = wr := ⟨_, rfl⟩
      subst hwo
      go_wp2
      clear hlk2
      go_loopw [20, 21] (fun u at_ wo2 => ∃ (c m : Nat) (ys : List Int), c < N ∧ at_ = .int .i64 c ∧ dst (edsA xs es) to N c = m ∧ m ≤ 16 ∧ ys.length + m ≤ 16 ∧ ys ++ walkF (edsA xs es) (dst (edsA xs es) to N) m c = R.1 ∧ Below wo.heap.size wo wo2 ∧ Own wo.heap.size wo2 u ys) (fun _ at_ _ => (dst (edsA xs es) to N (intOf at_)).toNat)
      case atStart =>
        refine ⟨a, x.toNat, [], ha, rfl, by rw [HXA.out]; omega, by omega, by simp; omega, by rw [HN.out]; rfl, Below.refl _ _, Own.nil_ _ _⟩
      case round =>
        obtain ⟨c, m, ys, hc, rfl, hcm, hm16, hym, hR, hb4, hou⟩ := hrel
        obtain ⟨wp, hwp⟩ : ∃ wp : World, wp = wr := ⟨_, rfl⟩
        subst hwp
        have HRX := Lib.hid hR
        have HCM := Lib.hid hcm
        have HOU := Lib.hid hou
        clear hR hcm hou
        have hwo4 : w.heap.size ≤ wo.heap.size := by have := hb.size; omega
        by_cases hct : c = to
        · subst hct
          have hm0 : m = 0 := by
            have h := HCM.out
            rw [dst_to] at h; omega
          have HE2 : Hid (R.1 = ys) := Lib.hid (by
            rw [← HRX.out, hm0]; unfold walkF; simp)
          go_wp2
          go_ret2
          refine ⟨_, ret_vb (by rw [HN.out]), ?_, be0.trans ((hb.trans (hb4.mono hb.size)).mono be0.size)⟩
          rw [HE2.out]
          exact HOU.out.base (fun g' h => by have := (World.ownsRow.lt HOU.out g' h).1; omega)
        · have hctb : ((c : Int) != (to : Int)) = true := by rw [bne_iff_ne]; omega
          have hm1 : m ≠ 0 := fun e => hct (by
            have h := HCM.out
            rw [e] at h
            have := dst_zero_at h; omega)
          obtain ⟨m', rfl⟩ : ∃ m', m = m' + 1 := ⟨m - 1, by omega⟩
          obtain ⟨j, hj, hn1, hn2⟩ := near_some HCM.out
          have HJ1 := Lib.hid hn1
          have HJ2 := Lib.hid hn2
          have HWS := Lib.hid (walkF_succ (s := m') hj hn1 hn2)
          have hj : j < es.length := by rw [← HGL.out]; exact hj
          clear hn1 hn2
          go_wp2
          go_loopw [20, 21, 92] (fun uu aa ii wi => ∃ i : Nat, i ≤ j ∧ uu = u20 ∧ aa = .int .i64 c ∧ ii = .int .i64 i ∧ Below wp.heap.size wp wi) (fun _ _ ii _ => es.length - (intOf ii).toNat)
          case atStart => exact ⟨0, Nat.zero_le _, rfl, rfl, rfl, Below.refl _ _⟩
          case round =>
            obtain ⟨i, hi, rfl, rfl, rfl, hb5⟩ := hrel
            have hil : i < es.length := by omega
            have hbo := hb4.trans (hb5.mono hb4.size)
            have hbw := hb.trans (hbo.mono hb.size)
            have m0 := cell_later hbw K0.out
            have m1 := cell_later hbw K1.out
            obtain ⟨p, hp, hpx⟩ := HK.out i hil
            obtain ⟨F, T, hF, hT, hFN, hTN, hne⟩ := HE.out p hpx
            obtain ⟨ad, hAE, hadb, ce0⟩ := (JE.out.below hbw).atD hil
            rw [hp] at ce0
            subst hAE
            obtain ⟨⟨s, f, t, l, ca, rr, k⟩, hx⟩ : ∃ x, xs.getD p aNone = x := ⟨_, rfl⟩
            obtain ⟨b, o, hA, hab, c0, c1, c2, c3, c4, c5, c6⟩ := (J0.out.below hbw).cells7 hpx hx
            subst hA
            have hea : edA xs (p : Int) = ⟨(p : Int), f, t⟩ := by unfold edA; rw [Int.toNat_natCast, hx]
            have hed : (edsA xs es).getD i eNone = ⟨(p : Int), f, t⟩ := by rw [edsA_get hil, hp, hea]
            rw [hx] at hF hT
            have hF : f = (F : Int) := hF
            have hT : t = (T : Int) := hT
            have HV := Lib.hid (fun W => other_any s f t l ca rr k (c : Int) (p : Int) W)
            have HIJ : Hid (i < j → nearB (dst (edsA xs es) to N) c ⟨(p : Int), f, t⟩ = false) := Lib.hid (fun h => by rw [← hed]; exact HJ2.out i h)
            have HIE : Hid (i = j → nearB (dst (edsA xs es) to N) c ⟨(p : Int), f, t⟩ = true ∧ walkF (edsA xs es) (dst (edsA xs es) to N) (m' + 1) c = sgn ⟨(p : Int), f, t⟩ c :: walkF (edsA xs es) (dst (edsA xs es) to N) m' ((oth ⟨(p : Int), f, t⟩ c).getD 0)) := Lib.hid (by
              rintro rfl
              rw [← hed]
              exact ⟨HJ1.out, HWS.out⟩)
            have HO5 := Lib.hid (HOU.out.later hb5)
            have hi0 : (0 : Int) ≤ (i : Int) := by omega
            have hi1 : (i : Int) < es.length := by omega
            have hp0 : (0 : Int) ≤ (p : Int) := by omega
            have hp1 : (p : Int) < xs.length := by omega
            have hszb : wo.heap.size ≤ wr.heap.size := hbo.size
            have hyl : ys.length ≤ 16 := by omega
            have HHr := Lib.hid (HH.out.later hbo)
            have HHed := Lib.hid hed
            have HHea := Lib.hid hea
            clear hed hea hx hp
            cases ho : oth ⟨(p : Int), f, t⟩ (c : Int) with
            | none =>
              rw [ho] at HV
              have hij : i < j := by
                rcases Nat.lt_or_ge i j with h | h
                · exact h
                · have h2 := (HIE.out (by omega)).1
                  unfold nearB at h2; rw [ho] at h2; cases h2
              clear ho HIJ HIE hF hT
              go_wp2_with (go_at_call 161; refine (HV.out _).mono ?_; rintro e w6 ⟨rfl, hb6⟩)
              have hb7 := hb5.trans (hb6.mono hb5.size)
              go_roundw
              case rel => exact ⟨i + 1, by omega, rfl, rfl, by go_num, hb7⟩
              case measure => simp [intOf]; omega
            | some v =>
              rw [ho] at HV
              have hvV : ∃ V : Nat, V < N ∧ v = (V : Int) := by
                rcases oth_cases ho with ⟨_, e⟩ | ⟨_, _, e⟩
                · have e : v = t := e
                  exact ⟨T, hTN, by rw [e, hT]⟩
                · have e : v = f := e
                  exact ⟨F, hFN, by rw [e, hF]⟩
              obtain ⟨V, hVN, rfl⟩ := hvV
              have hcQ : (c : Int) ∈ Q := (HS.out.mem _).1 (by rw [HGV.out, if_pos (by rw [HCM.out]; omega)]; rfl)
              have hVQ : (V : Int) ∈ Q := by
                obtain ⟨ic, hic, e⟩ := getD_of_mem 0 hcQ
                exact HS.out.done ic hic i (by rw [HGL.out]; exact hil) _ (by rw [e, HHed.out]; exact ho)
              have hV0 : 0 ≤ dst (edsA xs es) to N V := by
                have h1 := (HS.out.mem _).2 hVQ
                rw [HGV.out] at h1
                by_cases h2 : 0 ≤ dst (edsA xs es) to N V
                · exact h2
                · rw [if_neg h2] at h1; cases h1
              have hnb : nearB (dst (edsA xs es) to N) c ⟨(p : Int), f, t⟩ = (dst (edsA xs es) to N V == dst (edsA xs es) to N c - 1) := by unfold nearB; rw [ho]
              have hbV := dst_or (edsA xs es) to N V
              have HNB := Lib.hid hnb
              have HOo := Lib.hid ho
              have HYd : ∃ y, dst (edsA xs es) to N V = y := ⟨_, rfl⟩
              obtain ⟨y, hy⟩ := HYd
              rw [hy] at hV0 hbV
              have HY := Lib.hid hy
              have hlV : ∀ W, Holds W w0.heap.size Q.length g → (Instr.lookup 172 (.map (some w0.heap.size)) (.int .i64 (V : Int)) false).run Tryz.prog W = .ok (.int .i64 y) W := fun W hW => by
                have h1 := hW.look (v := (V : Int)) (by omega)
                rw [HGV.out, if_pos (by rw [HY.out]; exact hV0), HY.out] at h1
                rw [h1, show ((some y.toNat).getD 0 : Nat) = y.toNat from rfl, Int.toNat_of_nonneg hV0]
              have hlC : ∀ W, Holds W w0.heap.size Q.length g → (Instr.lookup 172 (.map (some w0.heap.size)) (.int .i64 (c : Int)) false).run Tryz.prog W = .ok (.int .i64 ((m' + 1 : Nat) : Int)) W := fun W hW => by
                have h1 := hW.look (v := (c : Int)) (by omega)
                rw [HGV.out, if_pos (by rw [HCM.out]; omega), HCM.out] at h1
                exact h1
              have HLV := Lib.hid hlV
              have HLC := Lib.hid hlC
              clear hlV hlC ho hnb hy hcQ hVQ
              obtain ⟨zc, hzc⟩ : ∃ zc : Int, ((m' + 1 : Nat) : Int) = zc := ⟨_, rfl⟩
              have hzc1 : 1 ≤ zc ∧ zc ≤ 16 := by omega
              rw [hzc] at HLC
              have HZC := Lib.hid hzc
              clear hzc
              have hwz : IntKind.i64.wrap (zc - 1) = zc - 1 := IntWalk.i64_in _ (by omega)
              have HT6 : Hid (∀ W, Below wr.heap.size wr W → ((Instr.lookup 172 (.map (some w0.heap.size)) (.int .i64 (V : Int)) false).run Tryz.prog W = .ok (.int .i64 y) W ∧ (Instr.lookup 172 (.map (some w0.heap.size)) (.int .i64 (c : Int)) false).run Tryz.prog W = .ok (.int .i64 zc) W) ∧ (W.cell? ⟨w.heap.size, 0, none⟩ = some (.int .i64 (N : Int)) ∧ W.cell? ⟨w.heap.size, 1, none⟩ = some (.slice (some ⟨b, o, none⟩) xs.length cp)) ∧ Own wo.heap.size W u20 ys ∧ wo.heap.size ≤ W.heap.size ∧ Recs encA 7 W.heap.size W (some ⟨b, o, none⟩) xs) := Lib.hid (fun W hW => by
                have hbo6 := hbo.trans (hW.mono hbo.size)
                have hb06 := hb.trans (hbo6.mono hb.size)
                exact ⟨⟨HLV.out _ (HHr.out.later hW), HLC.out _ (HHr.out.later hW)⟩, ⟨cell_later hW m0, cell_later hW m1⟩, HO5.out.later hW, hbo6.size, (J0.out.below hb06).more hb06.size⟩)
              have HBO := Lib.hid hbo
              by_cases hij : i < j
              · have hyb : (y == zc - 1) = false := by
                  have h := HIJ.out hij
                  rw [HNB.out, HY.out, HCM.out, HZC.out] at h
                  exact h
                clear HIJ HIE hF hT HNB
                go_wp2_with (go_at_call 161; refine (HV.out _).mono ?_; rintro e w6 ⟨rfl, hb6⟩; obtain ⟨⟨hl1, hl2⟩, -, -⟩ := HT6.out _ hb6)
                have hb7 := hb5.trans (hb6.mono hb5.size)
                go_roundw
                case rel => exact ⟨i + 1, by omega, rfl, rfl, by go_num, hb7⟩
                case measure => simp [intOf]; omega
              · obtain ⟨h5, h6⟩ := HIE.out (by omega)
                have hyb : (y == zc - 1) = true := by
                  rw [HNB.out, HY.out, HCM.out, HZC.out] at h5
                  exact h5
                rw [HOo.out] at h6
                have h6 : walkF (edsA xs es) (dst (edsA xs es) to N) (m' + 1) c = sgn ⟨(p : Int), f, t⟩ c :: walkF (edsA xs es) (dst (edsA xs es) to N) m' (V : Int) := h6
                have H6 := Lib.hid h6
                have hq2 : dst (edsA xs es) to N V = (m' : Int) := by
                  have h1 := HZC.out
                  rw [beq_iff_eq] at hyb
                  rw [HY.out]; omega
                have HQ2 := Lib.hid hq2
                have HST : Hid (∀ W, Recs encA 7 W.heap.size W (some ⟨b, o, none⟩) xs → Calls Tryz.prog 162 #[.agg #[.int .i64 (N : Int), .slice (some ⟨b, o, none⟩) xs.length cp], .int .i64 (p : Int), .int .i64 (c : Int)] W fun e w' => e = .returned (.int .i64 (sgn ⟨(p : Int), f, t⟩ c)) ∧ Below W.heap.size W w') := Lib.hid (fun W hW => by
                  rw [← HHea.out]
                  exact step_any (N : Int) (some ⟨b, o, none⟩) cp xs p (c : Int) W.heap.size W (by omega) hW (Nat.le_refl _) hpx)
                clear HIJ HIE hF hT HNB h5 h6 hq2
                generalize sgn ⟨(p : Int), f, t⟩ (c : Int) = sg at *
                go_wp2_with (first
                  | (go_at_call 161; refine (HV.out _).mono ?_; rintro e w6 ⟨rfl, hb6⟩; obtain ⟨⟨hl1, hl2⟩, ⟨m06, m16⟩, ho6, hsz6, hr6⟩ := HT6.out _ hb6; have HO6 := Lib.hid ho6; have HR6 := Lib.hid hr6; clear ho6 hr6 m0 m1)
                  | (go_at_call 162; refine (HST.out _ HR6.out).mono ?_; rintro e w3 ⟨rfl, hb3⟩; have HO3 := Lib.hid (HO6.out.later hb3); have hsz3 : wo.heap.size ≤ w3.heap.size := Nat.le_trans hsz6 hb3.size)
                  | (at_builtin; refine wpList_append_own_at _ rfl _ _ 25 rfl wo.heap.size 2 i0 (.int .i64 0) 1 8 Tryz.underlying25 HF.out.1 HF.out.2.1 HF.out.2.2.1 HF.out.2.2.2 rfl (by decide) _ _ _ rfl (HO3.out.later ((Below.refl _ _).alloc (Nat.le_refl _) _)) ⟨w3.heap.size, 0, none⟩ 1 1 [.int .i64 sg] rfl rfl (cell_one_new _ _ _) (by intro u hu; simp at hu; subst hu; rfl) (le_max (by omega)) (by omega) (by simp; omega) ?_; intro av aw ah ag an aa))
                have hbo6 := HBO.out.trans (hb6.mono HBO.out.size)
                have hbe2 : Below wo.heap.size wo aw := Below.appended (hbo6.trans (hb3.mono hbo6.size)) HO3.out hsz3 ag
                have ho' := Own.appended ah
                clear ah ag an aa
                have HO4 := Lib.hid ho'
                clear ho'
                go_roundw
                case rel => exact ⟨V, m', ys ++ [sg], hVN, rfl, HQ2.out, by omega, by simp; omega, by rw [List.append_assoc, List.singleton_append, ← H6.out]; exact HRX.out, hbe2, HO4.out⟩
                case measure => have q1 := HCM.out; have q2 := HQ2.out; simp [intOf, q1, q2] <;> omega
end Go.Proofs.YtejkoicgbgoiaaaGreat

/- Networks: the spanning forest, by the program. Conditions: the facts on memory and on lengths that each theorem names. -/
namespace Go.Proofs.YtejkoicgbgoiaaaGreat
open Go.RowKit
open Pl
theorem treeL_step (N : Nat) (xs : List Aw) (k : Nat) (R : List Int) (F T : Nat) (hm : mineB (N : Int) xs = true) (hk : k < xs.length) (hF : (xs.getD k aNone).f = F) (hT : (xs.getD k aNone).t = T) (hTN : T < N) (h : Fnd N (edsA xs (treeL N xs k)) (F : Int) R) :
    treeL N xs (k + 1) = if R.contains (T : Int) = true then treeL N xs k else treeL N xs k ++ [(k : Int)] := by
  have e : treeL N xs (k + 1) = if lab N (edsA xs (treeL N xs k)) (xs.getD k aNone).f = lab N (edsA xs (treeL N xs k)) (xs.getD k aNone).t then treeL N xs k else treeL N xs k ++ [(k : Int)] := rfl
  have hi := h.lab_iff (edsA_in hm ((treeL_ok N xs k).more (by omega))) (y := (T : Int)) (by omega) (by omega)
  rw [e, hF, hT]
  have hc : R.contains (T : Int) = true ↔ (T : Int) ∈ R := by simp
  by_cases hl : lab N (edsA xs (treeL N xs k)) (F : Int) = lab N (edsA xs (treeL N xs k)) (T : Int)
  · rw [if_pos hl, if_pos (hc.2 (hi.2 hl))]
  · rw [if_neg hl, if_neg (fun h' => hl (hi.1 (hc.1 h')))]
set_option maxRecDepth 100000 in
set_option maxHeartbeats 3200000 in
theorem tree_any (N : Nat) (A : Option Addr) (cp : Nat) (xs : List Aw) (w : World) (hI : Recs encA 7 w.heap.size w A xs) (hm : mineB (N : Int) xs = true) :
    Calls Tryz.prog 126 #[.agg #[.int .i64 (N : Int), .slice A xs.length cp]] w fun e w' => ∃ u, e = .returned u ∧ Own w.heap.size w' u (forest N xs) ∧ Below w.heap.size w w' := by
  obtain ⟨⟨n1, n2⟩, nx, _⟩ := mineB_bd hm
  have HM := Lib.hid hm
  have HE := Lib.hid (fun p (hp : p < xs.length) => mine_ends hm hp)
  have hN1 : 1 ≤ N := by omega
  have hN2 : N ≤ 16 := by omega
  have hxn : xs.length ≤ 24 := by omega
  obtain ⟨i0, hi, hz0, hz1, hz2⟩ := info_parts infoI
  have HF := Lib.hid (And.intro hi (And.intro hz0 (And.intro hz1 hz2)))
  have be0 : Below w.heap.size w (w.alloc (.cells #[.int .i64 (N : Int), .slice A xs.length cp] 33)) := by go_grown
  have k0 : (w.alloc (.cells #[.int .i64 (N : Int), .slice A xs.length cp] 33)).cell? ⟨w.heap.size, 0, none⟩ = some (.int .i64 (N : Int)) := by go_simp
  have k1 : (w.alloc (.cells #[.int .i64 (N : Int), .slice A xs.length cp] 33)).cell? ⟨w.heap.size, 1, none⟩ = some (.slice A xs.length cp) := by go_simp
  have K0 := Lib.hid k0
  have K1 := Lib.hid k1
  have J0 := Lib.hid ((hI.below be0).more be0.size)
  have hwl : w.heap.size < (w.alloc (.cells #[.int .i64 (N : Int), .slice A xs.length cp] 33)).heap.size := by simp
  clear hI hm n1 n2 nx hi hz0 hz1 hz2 k0 k1
  go_enter Tryz.func126, Tryz.ntmps126
  go_wp2_with fail
  generalize hw0 : (w.alloc (.cells #[.int .i64 (N : Int), .slice A xs.length cp] 33)) = w0 at *
  clear hw0
  go_loopw [3, 9] (fun u kk wr => ∃ k : Nat, k ≤ xs.length ∧ kk = .int .i64 k ∧ Below w0.heap.size w0 wr ∧ Own w0.heap.size wr u (treeL N xs k)) (fun _ kk _ => xs.length - (intOf kk).toNat)
  case atStart => exact ⟨0, Nat.zero_le _, rfl, Below.refl _ _, Own.nil_ _ _⟩
  case round =>
    obtain ⟨k, hk, rfl, hb, ho⟩ := hrel
    have m0 := cell_later hb K0.out
    have m1 := cell_later hb K1.out
    have htl := treeL_length N xs k
    obtain ⟨AV, cv, hv, -, -⟩ := ho.slice
    by_cases hlt : k < xs.length
    · obtain ⟨F, T, hF, hT, hFN, hTN, _⟩ := HE.out k hlt
      have HST := Lib.hid (fun R h => treeL_step N xs k R F T HM.out hlt hF hT hTN h)
      have HOK := Lib.hid ((treeL_ok N xs k).more (n' := xs.length) (by omega))
      obtain ⟨⟨s, f, t, l, c, r, q⟩, hax⟩ : ∃ x, xs.getD k aNone = x := ⟨_, rfl⟩
      obtain ⟨b, o, hA, hab, c0, c1, c2, c3, c4, c5, c6⟩ := (J0.out.below hb).cells7 hlt hax
      subst hA
      rw [hax] at hF hT
      have hF : f = (F : Int) := hF
      have hT : t = (T : Int) := hT
      subst hF hT
      have i0' : (0 : Int) ≤ (k : Int) := by omega
      have i1' : (k : Int) < xs.length := by omega
      have hsz := hb.size
      have hba : Below wr.heap.size wr (wr.alloc (.cells #[.string s, .int .i64 (F : Int), .int .i64 (T : Int), .int .i64 l, .int .i64 c, .int .i64 r, .int .i64 q] 99)) := (Below.refl _ _).alloc (Nat.le_refl _) _
      have a1 : ((wr.alloc (.cells #[.string s, .int .i64 (F : Int), .int .i64 (T : Int), .int .i64 l, .int .i64 c, .int .i64 r, .int .i64 q] 99))).cell? ⟨wr.heap.size, 1, none⟩ = some (.int .i64 (F : Int)) := by go_simp
      have a2 : ((wr.alloc (.cells #[.string s, .int .i64 (F : Int), .int .i64 (T : Int), .int .i64 l, .int .i64 c, .int .i64 r, .int .i64 q] 99))).cell? ⟨wr.heap.size, 2, none⟩ = some (.int .i64 (T : Int)) := by go_simp
      have hla : wr.heap.size < ((wr.alloc (.cells #[.string s, .int .i64 (F : Int), .int .i64 (T : Int), .int .i64 l, .int .i64 c, .int .i64 r, .int .i64 q] 99))).heap.size := by simp
      have HO := Lib.hid ho
      subst hv
      clear ho hax
      go_wp2_with fail
      have m0' := cell_later hba m0
      have m1' := cell_later hba m1
      have hbw : Below w0.heap.size w0 (wr.alloc (.cells #[.string s, .int .i64 (F : Int), .int .i64 (T : Int), .int .i64 l, .int .i64 c, .int .i64 r, .int .i64 q] 99)) := hb.trans (hba.mono hsz)
      have HO2 := Lib.hid (HO.out.later hba)
      generalize (wr.alloc (.cells #[.string s, .int .i64 (F : Int), .int .i64 (T : Int), .int .i64 l, .int .i64 c, .int .i64 r, .int .i64 q] 99)) = wa at *
      generalize htr : treeL N xs k = tr at *
      clear c0 c1 c2 c3 c4 c5 c6 m0 m1 hba
      go_region_held3 (fun w' => (w'.cell? ⟨w.heap.size, 0, none⟩ = some (.int .i64 (N : Int)) ∧ w'.cell? ⟨w.heap.size, 1, none⟩ = some (.slice (some ⟨b, o, none⟩) xs.length cp)) ∧ (w'.cell? ⟨wr.heap.size, 1, none⟩ = some (.int .i64 (F : Int)) ∧ w'.cell? ⟨wr.heap.size, 2, none⟩ = some (.int .i64 (T : Int))))
        (first
          | go_keep
          | exact ⟨⟨((bcell hb3).1 _ _ (by simp <;> omega)).trans m0', ((bcell hb3).1 _ _ (by simp <;> omega)).trans m1'⟩, ((bcell hb3).1 _ _ (by simp <;> omega)).trans a1, ((bcell hb3).1 _ _ (by simp <;> omega)).trans a2⟩)
        (first
          | (go_at_call 159; refine (reached_any N (some ⟨b, o, none⟩) cp xs F AV cv tr _ (by first | exact (J0.out.below hbw).more hbw.size | exact (J0.out.below hbw.drew).more hbw.drew.size) HM.out (by first | exact HO2.out.ints | exact (HO2.out.later (Below.refl _ _).drew).ints) HOK.out (by omega) hFN).mono ?_; rintro e w3 ⟨u3, R3, rfl, ho3, hf3, hl3, hb3⟩; obtain ⟨A3, cc3, rfl, hi3, -⟩ := ho3.slice; obtain ⟨cb, hcb⟩ : ∃ cb, R3.contains (T : Int) = cb := ⟨_, rfl⟩; have HS3 := Lib.hid (hcb ▸ HST.out R3 hf3); have HCC := Lib.hid (fun W hI => eqb (Contains_any A3 cc3 R3 (T : Int) w3.heap.size W (by omega) hI) hcb); clear hf3 hcb)
          | (go_at_call 127; refine (HCC.out _ hi3).mono ?_; rintro e w' ⟨rfl, rfl⟩))
      have hcx : Below wa.heap.size wa w3 := ((Below.refl wa.heap.size wa).drew).trans (hb3.mono (by simp))
      have hbw3 : Below w0.heap.size w0 w3 := hbw.trans (hcx.mono hbw.size)
      have HO3 := Lib.hid (HO2.out.later hcx)
      have hsz3 := hbw3.size
      clear m0' m1' a1 a2 hb3 hcx ho3 hi3 hl3
      clear HCC
      cases cb
      · have HS4 : Hid (treeL N xs (k + 1) = tr ++ [(k : Int)]) := Lib.hid (by rw [HS3.out]; rfl)
        clear HS3
        go_wp2_with (at_builtin; refine wpList_append_own_at _ rfl _ _ 25 rfl w0.heap.size 2 i0 (.int .i64 0) 1 8 Tryz.underlying25 HF.out.1 HF.out.2.1 HF.out.2.2.1 HF.out.2.2.2 rfl (by decide) _ _ _ rfl (HO3.out.later ((Below.refl _ _).alloc (Nat.le_refl _) _)) ⟨w3.heap.size, 0, none⟩ 1 1 [.int .i64 (k : Int)] rfl rfl (cell_one_new _ _ _) (by intro u hu; simp at hu; subst hu; rfl) (le_max (by omega)) (by omega) (by simp; omega) ?_; intro av aw ah ag an aa)
        have hbe2 : Below w0.heap.size w0 aw := Below.appended hbw3 HO3.out hsz3 ag
        have ho' := Own.appended ah
        clear ah ag an aa
        have HO4 := Lib.hid ho'
        clear ho'
        go_wp2
        go_roundw
        case rel => exact ⟨k + 1, by omega, by go_num, hbe2, by rw [HS4.out]; exact HO4.out⟩
        case measure => simp [intOf]; omega
      · have HS4 : Hid (treeL N xs (k + 1) = tr) := Lib.hid (by rw [HS3.out]; rfl)
        clear HS3
        go_wp2_with fail
        go_roundw
        case rel => exact ⟨k + 1, by omega, by go_num, hbw3, by rw [HS4.out]; exact HO3.out⟩
        case measure => simp [intOf]; omega
    · obtain rfl : k = xs.length := by omega
      have HO := Lib.hid ho
      clear ho
      go_wp2
      go_ret
      exact ⟨_, rfl, HO.out.base (fun g h => by have := (World.ownsRow.lt HO.out g h).1; omega), be0.trans (hb.mono be0.size)⟩
end Go.Proofs.YtejkoicgbgoiaaaGreat

/- Flows, with no program in sight: the pressure of a fan, the pushes of all airways, the error of a walk, the step, a root, the rounds that make the errors small. No conditions beyond those that each lemma names. -/
namespace Go.Proofs.YtejkoicgbgoiaaaGreat
open Pl
/-! ### A number on a line through two points, or that of the nearer end -/
def linF (x0 y0 x1 y1 x : Int) : Int := if x ≤ x0 ∨ x1 ≤ x0 then y0 else if x1 ≤ x then y1 else y0 + divR ((y1 - y0) * (x - x0)) (x1 - x0)
theorem linF_bd {x0 y0 x1 y1 x : Int} (h1 : y1 ≤ y0) : y1 ≤ linF x0 y0 x1 y1 x ∧ linF x0 y0 x1 y1 x ≤ y0 := by
  unfold linF
  split
  · omega
  · split
    · omega
    · rename_i h2 h3
      have hb : 0 < x1 - x0 := by omega
      obtain ⟨c, hc⟩ : ∃ c, c = y0 - y1 := ⟨_, rfl⟩
      obtain ⟨d, hd⟩ : ∃ d, d = x - x0 := ⟨_, rfl⟩
      obtain ⟨b, hbb⟩ : ∃ b, b = x1 - x0 := ⟨_, rfl⟩
      have e : (y1 - y0) * (x - x0) = -(c * d) := by
        rw [hc, hd, ← Int.neg_mul]; congr 1; omega
      rw [e, ← hbb]
      have c0 : 0 ≤ c := by omega
      have h4 : 0 ≤ c * d := Int.mul_nonneg c0 (by omega)
      have h5 : c * d ≤ c * b := Int.mul_le_mul_of_nonneg_left (by omega) c0
      have h6 := divR_nonpos (a := -(c * d)) (b := b) (by omega) (by omega)
      have h7 : (2 * c + 1) * b = 2 * (c * b) + b := by rw [Int.add_mul, Int.one_mul, Int.mul_assoc]
      have h8 := le_divR (a := -(c * d)) (b := b) (c := c) (by omega) (by rw [h7]; omega) c0
      omega
/-! ### A fan's pressure -/
def scanF (cv : List (List Int)) (q : Int) : Nat → Nat → Int
  | 0, k => linF (at2 cv (k - 1) 0) (at2 cv (k - 1) 1) (at2 cv k 0) (at2 cv k 1) q
  | n + 1, k => if at2 cv k 0 < q then scanF cv q n (k + 1) else linF (at2 cv (k - 1) 0) (at2 cv (k - 1) 1) (at2 cv k 0) (at2 cv k 1) q
def pressF (cv : List (List Int)) (q : Int) : Int := scanF cv q (cv.length - 2) 1
/-- What a valid curve says of its points. -/
structure Curved (cv : List (List Int)) : Prop where
  two : 2 ≤ cv.length
  eight : cv.length ≤ 8
  pair : ∀ k, k < cv.length → (cv.getD k []).length = 2
  flow : ∀ k, k < cv.length → 0 ≤ at2 cv k 0 ∧ at2 cv k 0 ≤ 100000
  push : ∀ k, k < cv.length → 0 ≤ at2 cv k 1 ∧ at2 cv k 1 ≤ 10000
  up : ∀ k, k + 1 < cv.length → at2 cv k 0 < at2 cv (k + 1) 0
  down : ∀ k, k + 1 < cv.length → at2 cv (k + 1) 1 ≤ at2 cv k 1
theorem curved {cv : List (List Int)} (h : curveB cv = true) : Curved cv := by
  unfold curveB at h
  rw [Bool.and_eq_true, Bool.and_eq_true, decide_eq_true_eq, decide_eq_true_eq] at h
  obtain ⟨⟨h1, h2⟩, h3⟩ := h
  have hp := fun k hk => ((allUp_iff _ _).1 h3) k hk
  have key : ∀ k, k < cv.length → (cv.getD k []).length = 2 ∧ (0 ≤ at2 cv k 0 ∧ at2 cv k 0 ≤ 100000) ∧ (0 ≤ at2 cv k 1 ∧ at2 cv k 1 ≤ 10000) ∧ stepB cv k = true := by
    intro k hk
    have h := hp k hk
    unfold ptP at h
    rw [Bool.and_eq_true, Bool.and_eq_true, Bool.and_eq_true, decide_eq_true_eq] at h
    exact ⟨h.1, inB_iff.1 h.2.1, inB_iff.1 h.2.2.1, h.2.2.2⟩
  refine ⟨by omega, by omega, fun k hk => (key k hk).1, fun k hk => (key k hk).2.1, fun k hk => (key k hk).2.2.1, fun k hk => ?_, fun k hk => ?_⟩
  · have h := (key (k + 1) hk).2.2.2
    rw [stepB_succ, Bool.and_eq_true, Bool.not_eq_true', Bool.not_eq_true', decide_eq_false_iff_not, decide_eq_false_iff_not] at h
    omega
  · have h := (key (k + 1) hk).2.2.2
    rw [stepB_succ, Bool.and_eq_true, Bool.not_eq_true', Bool.not_eq_true', decide_eq_false_iff_not, decide_eq_false_iff_not] at h
    omega
theorem scanF_bd {cv : List (List Int)} (h : Curved cv) (q : Int) : ∀ n k, 1 ≤ k → k + n + 1 = cv.length → 0 ≤ scanF cv q n k ∧ scanF cv q n k ≤ 10000 := by
  have one : ∀ k, 1 ≤ k → k < cv.length → 0 ≤ linF (at2 cv (k - 1) 0) (at2 cv (k - 1) 1) (at2 cv k 0) (at2 cv k 1) q ∧ linF (at2 cv (k - 1) 0) (at2 cv (k - 1) 1) (at2 cv k 0) (at2 cv k 1) q ≤ 10000 := by
    intro k h1 hk
    obtain ⟨j, rfl⟩ : ∃ j, k = j + 1 := ⟨k - 1, by omega⟩
    have e : j + 1 - 1 = j := by omega
    rw [e]
    have hd := h.down j hk
    have h2 := linF_bd (x0 := at2 cv j 0) (x1 := at2 cv (j + 1) 0) (x := q) hd
    have h3 := h.push j (by omega)
    have h4 := h.push (j + 1) hk
    omega
  intro n
  induction n with
  | zero => intro k h1 h2; exact one k h1 (by omega)
  | succ n ih =>
    intro k h1 h2
    unfold scanF
    split
    · exact ih (k + 1) (by omega) (by omega)
    · exact one k h1 (by omega)
theorem pressF_bd {cv : List (List Int)} (h : Curved cv) (q : Int) : 0 ≤ pressF cv q ∧ pressF cv q ≤ 10000 := scanF_bd h q _ 1 (by omega) (by have := h.two; omega)
theorem scanF_stop {cv : List (List Int)} {q : Int} {n k : Nat} (h : ¬ at2 cv k 0 < q) : scanF cv q n k = linF (at2 cv (k - 1) 0) (at2 cv (k - 1) 1) (at2 cv k 0) (at2 cv k 1) q := by
  cases n with
  | zero => rfl
  | succ n => unfold scanF; rw [if_neg h]
/-! ### Pushes -/
/-- The place in a list that an entry of a walk tells, and its sign. -/
def ixI (n : Int) : Nat := (if 0 < n then n - 1 else -n - 1).toNat
def sgI (n : Int) : Int := if 0 < n then 1 else -1
def pushK (fs : List Fa) (fl dr : List Int) : Nat → List Int
  | 0 => dr
  | k + 1 => (pushK fs fl dr k).set (fs.getD k nFa).aw.toNat ((pushK fs fl dr k).getD (fs.getD k nFa).aw.toNat 0 + pressF (fs.getD k nFa).cv (fl.getD (fs.getD k nFa).aw.toNat 0))
def pushF (fs : List Fa) (fl dr : List Int) : List Int := pushK fs fl dr fs.length
theorem pushK_length (fs : List Fa) (fl dr : List Int) : ∀ k, (pushK fs fl dr k).length = dr.length
  | 0 => rfl
  | k + 1 => by unfold pushK; rw [List.length_set]; exact pushK_length fs fl dr k
/-- Fans that stand in a mine of nx airways, with valid curves. -/
structure FansOk (nx : Nat) (fs : List Fa) : Prop where
  few : fs.length ≤ 8
  air : ∀ k, k < fs.length → ∃ a : Nat, (fs.getD k nFa).aw = a ∧ a < nx
  cur : ∀ k, k < fs.length → Curved (fs.getD k nFa).cv
theorem pushK_bd {nx : Nat} {fs : List Fa} {fl dr : List Int} (h : FansOk nx fs) (hl : dr.length = nx) (hd : ∀ i, i < nx → -100000 ≤ dr.getD i 0 ∧ dr.getD i 0 ≤ 100000) :
    ∀ k, k ≤ fs.length → ∀ i, i < nx → -100000 ≤ (pushK fs fl dr k).getD i 0 ∧ (pushK fs fl dr k).getD i 0 ≤ 100000 + 10000 * k
  | 0, _, i, hi => by have := hd i hi; unfold pushK; omega
  | k + 1, hk, i, hi => by
    have ih := pushK_bd (fl := fl) h hl hd k (by omega)
    obtain ⟨a, ha, hax⟩ := h.air k (by omega)
    have hb := pressF_bd (h.cur k (by omega)) (fl.getD a 0)
    unfold pushK
    rw [ha, Int.toNat_natCast, getD_set _ _ _ _ (by rw [pushK_length]; omega)]
    have h1 := ih a hax
    have h2 := ih i hi
    split
    · omega
    · omega
/-! ### Errors and steps -/
/-- Entries that tell places in a list of nx numbers. -/
def WalkOk (nx : Nat) (wk : List Int) : Prop := ∀ k, k < wk.length → wk.getD k 0 ≠ 0 ∧ ixI (wk.getD k 0) < nx ∧ (wk.getD k 0).natAbs ≤ nx
def errK (rs ps fl wk : List Int) : Nat → Int
  | 0 => 0
  | k + 1 => errK rs ps fl wk k + sgI (wk.getD k 0) * (dropZ (rs.getD (ixI (wk.getD k 0)) 0) (fl.getD (ixI (wk.getD k 0)) 0) - ps.getD (ixI (wk.getD k 0)) 0)
def errW (rs ps fl wk : List Int) : Int := errK rs ps fl wk wk.length
/-- Lists with a resistance, a push and a flow for each airway. -/
structure SysOk (nx : Nat) (rs ps fl : List Int) : Prop where
  lr : rs.length = nx
  lp : ps.length = nx
  lf : fl.length = nx
  res : ∀ i, i < nx → 1 ≤ rs.getD i 0 ∧ rs.getD i 0 ≤ 1000000
  pus : ∀ i, i < nx → -200000 ≤ ps.getD i 0 ∧ ps.getD i 0 ≤ 200000
  flo : ∀ i, i < nx → -100000 ≤ fl.getD i 0 ∧ fl.getD i 0 ≤ 100000
theorem dropZ_bd {r f : Int} (h1 : 0 ≤ r) (h2 : r ≤ 1000000) (h3 : -100000 ≤ f) (h4 : f ≤ 100000) : -1000000 ≤ dropZ r f ∧ dropZ r f ≤ 1000000 := by
  obtain ⟨_, a, b⟩ := drop_bd h1 h2 h3 h4
  unfold dropZ
  generalize r * f * (f.natAbs : Int) = x at *
  exact ⟨le_divR (by omega) (by omega) (by omega), divR_le (by omega) (by omega) (by omega)⟩
theorem sgI_or (n : Int) : sgI n = 1 ∨ sgI n = -1 := by unfold sgI; split <;> simp
theorem errK_bd {nx : Nat} {rs ps fl wk : List Int} (h : SysOk nx rs ps fl) (hw : WalkOk nx wk) : ∀ k, k ≤ wk.length → -(1200000 * (k : Int)) ≤ errK rs ps fl wk k ∧ errK rs ps fl wk k ≤ 1200000 * (k : Int)
  | 0, _ => by unfold errK; omega
  | k + 1, hk => by
    have ih := errK_bd h hw k (by omega)
    obtain ⟨_, hi, _⟩ := hw k (by omega)
    have h1 := h.res _ hi
    have h2 := h.pus _ hi
    have h3 := h.flo _ hi
    have h4 := dropZ_bd (by omega) h1.2 h3.1 h3.2
    unfold errK
    rcases sgI_or (wk.getD k 0) with e | e <;> rw [e] <;> omega
def riseK (rs fl wk : List Int) : Nat → Int
  | 0 => 0
  | k + 1 => riseK rs fl wk k + 2 * rs.getD (ixI (wk.getD k 0)) 0 * ((fl.getD (ixI (wk.getD k 0)) 0).natAbs : Int)
def allK (rs wk : List Int) : Nat → Int
  | 0 => 0
  | k + 1 => allK rs wk k + rs.getD (ixI (wk.getD k 0)) 0
theorem rise1_bd {r f : Int} (h1 : 1 ≤ r) (h2 : r ≤ 1000000) (h3 : -100000 ≤ f) (h4 : f ≤ 100000) : 0 ≤ 2 * r * (f.natAbs : Int) ∧ 2 * r * (f.natAbs : Int) ≤ 200000000000 := by
  have a := mul_le (a := 2 * r) (b := (f.natAbs : Int)) (A := 2000000) (B := 100000) (by omega) (by omega) (by omega) (by omega)
  have b := mul_ge (a := 2 * r) (b := (f.natAbs : Int)) (by omega) (by omega)
  omega
theorem riseK_bd {nx : Nat} {rs ps fl wk : List Int} (h : SysOk nx rs ps fl) (hw : WalkOk nx wk) : ∀ k, k ≤ wk.length → 0 ≤ riseK rs fl wk k ∧ riseK rs fl wk k ≤ 200000000000 * (k : Int)
  | 0, _ => by unfold riseK; omega
  | k + 1, hk => by
    have ih := riseK_bd h hw k (by omega)
    obtain ⟨_, hi, _⟩ := hw k (by omega)
    have h1 := h.res _ hi
    have h3 := h.flo _ hi
    have h4 := rise1_bd h1.1 h1.2 h3.1 h3.2
    unfold riseK
    omega
theorem allK_bd {nx : Nat} {rs ps fl wk : List Int} (h : SysOk nx rs ps fl) (hw : WalkOk nx wk) : ∀ k, k ≤ wk.length → (k : Int) ≤ allK rs wk k ∧ allK rs wk k ≤ 1000000 * (k : Int)
  | 0, _ => by unfold allK; omega
  | k + 1, hk => by
    have ih := allK_bd h hw k (by omega)
    obtain ⟨_, hi, _⟩ := hw k (by omega)
    have h1 := h.res _ hi
    unfold allK
    omega
/-- The root of a number, rounded down. -/
theorem root_nat : ∀ n : Nat, ∃ r : Nat, r * r ≤ n ∧ n < (r + 1) * (r + 1)
  | 0 => ⟨0, by omega, by omega⟩
  | n + 1 => by
    obtain ⟨r, h1, h2⟩ := root_nat n
    by_cases e : (r + 1) * (r + 1) ≤ n + 1
    · refine ⟨r + 1, e, ?_⟩
      have : (r + 1 + 1) * (r + 1 + 1) = (r + 1) * (r + 1) + 2 * (r + 1) + 1 := by
        rw [Nat.add_mul (r + 1) 1, Nat.mul_add]; omega
      omega
    · exact ⟨r, by omega, by omega⟩
noncomputable def rootN (n : Nat) : Nat := Classical.choose (root_nat n)
theorem rootN_spec (n : Nat) : rootN n * rootN n ≤ n ∧ n < (rootN n + 1) * (rootN n + 1) := Classical.choose_spec (root_nat n)
noncomputable def rootF (n : Int) : Int := (rootN n.toNat : Int)
theorem sq_mono {a b : Nat} (h : a ≤ b) : a * a ≤ b * b := Nat.mul_le_mul h h
theorem rootN_le {n k : Nat} (h : n < (k + 1) * (k + 1)) : rootN n ≤ k := by
  rcases Nat.lt_or_ge k (rootN n) with h' | h'
  · have h1 := (rootN_spec n).1
    have h2 := sq_mono (show k + 1 ≤ rootN n from h')
    omega
  · exact h'
theorem le_rootN {n k : Nat} (h : k * k ≤ n) : k ≤ rootN n := by
  rcases Nat.lt_or_ge (rootN n) k with h' | h'
  · have h1 := (rootN_spec n).2
    have h2 := sq_mono (show rootN n + 1 ≤ k from h')
    omega
  · exact h'
theorem sq_le_iff {n k : Nat} : k * k ≤ n ↔ k ≤ rootN n := ⟨le_rootN, fun h => Nat.le_trans (sq_mono h) (rootN_spec n).1⟩
noncomputable def stepOf (e ri al : Int) : Int := if 0 < ri then divR (-e * 10000000000) ri else if 0 < e then -rootF (e * 10000000000 / al) else if e < 0 then rootF (-e * 10000000000 / al) else 0
noncomputable def stepW (rs ps fl wk : List Int) : Int := mn (mx (stepOf (errW rs ps fl wk) (riseK rs fl wk wk.length) (allK rs wk wk.length)) (-10000)) 10000
theorem stepW_bd (rs ps fl wk : List Int) : -10000 ≤ stepW rs ps fl wk ∧ stepW rs ps fl wk ≤ 10000 := by
  unfold stepW
  generalize stepOf (errW rs ps fl wk) (riseK rs fl wk wk.length) (allK rs wk wk.length) = x
  unfold mn mx
  constructor <;> split <;> split at * <;> omega
/-! ### An amount along a walk -/
def addK (fl wk : List Int) (a : Int) : Nat → List Int
  | 0 => fl
  | k + 1 => (addK fl wk a k).set (ixI (wk.getD k 0)) ((addK fl wk a k).getD (ixI (wk.getD k 0)) 0 + sgI (wk.getD k 0) * a)
def addW (fl wk : List Int) (a : Int) : List Int := addK fl wk a wk.length
theorem addK_length (fl wk : List Int) (a : Int) : ∀ k, (addK fl wk a k).length = fl.length
  | 0 => rfl
  | k + 1 => by unfold addK; rw [List.length_set]; exact addK_length fl wk a k
theorem addK_bd {nx : Nat} {fl wk : List Int} {a : Int} (hl : fl.length = nx) (hf : ∀ i, i < nx → -100000 ≤ fl.getD i 0 ∧ fl.getD i 0 ≤ 100000) (ha : -10000 ≤ a ∧ a ≤ 10000) (hw : WalkOk nx wk) :
    ∀ k, k ≤ wk.length → ∀ i, i < nx → -100000 - 10000 * (k : Int) ≤ (addK fl wk a k).getD i 0 ∧ (addK fl wk a k).getD i 0 ≤ 100000 + 10000 * (k : Int)
  | 0, _, i, hi => by have := hf i hi; unfold addK; omega
  | k + 1, hk, i, hi => by
    have ih := addK_bd hl hf ha hw k (by omega)
    obtain ⟨_, hx, _⟩ := hw k (by omega)
    unfold addK
    rw [getD_set _ _ _ _ (by rw [addK_length]; omega)]
    have h1 := ih _ hx
    have h2 := ih i hi
    split
    · rcases sgI_or (wk.getD k 0) with e | e <;> rw [e] <;> omega
    · omega
/-! ### Rounds -/
def errsL (rs ps fl : List Int) (ms : List (List Int)) : List Int := ms.map (errW rs ps fl)
def worstK (es : List Int) : Nat → Int
  | 0 => 0
  | k + 1 => mx (worstK es k) ((es.getD k 0).natAbs : Int)
def worstL (es : List Int) : Int := worstK es es.length
def flowsB (fl : List Int) : Bool := allIn fl (-100000) 100000
/-- One pass over the meshes: flows, or none if one of them is too great. -/
noncomputable def passK (rs dr : List Int) (fs : List Fa) : List (List Int) → List Int → Option (List Int)
  | [], fl => some fl
  | m :: ms, fl => if flowsB (addW fl m (stepW rs (pushF fs fl dr) fl m)) then passK rs dr fs ms (addW fl m (stepW rs (pushF fs fl dr) fl m)) else none
noncomputable def solveR (rs dr : List Int) (fs : List Fa) (ms : List (List Int)) (tol : Int) : Nat → List Int → List Int × Int × Int
  | 0, fl => if worstL (errsL rs (pushF fs fl dr) fl ms) ≤ tol then (fl, worstL (errsL rs (pushF fs fl dr) fl ms), 0) else ([], worstL (errsL rs (pushF fs fl dr) fl ms), 5)
  | n + 1, fl => if worstL (errsL rs (pushF fs fl dr) fl ms) ≤ tol then (fl, worstL (errsL rs (pushF fs fl dr) fl ms), 0) else
    match passK rs dr fs ms fl with
      | none => ([], 0, 6)
      | some fl' => solveR rs dr fs ms tol n fl'
end Go.Proofs.YtejkoicgbgoiaaaGreat

/- Flows: the error of a walk, by the program and by the reference. Conditions: the facts on memory and on lengths that each theorem names. -/
namespace Go.Proofs.YtejkoicgbgoiaaaGreat
open Go.RowKit
open Pl
theorem ix_pos {n : Int} (h0 : n ≠ 0) : (ixI n : Int) = (if 0 < n then n - 1 else -n - 1) := by
  unfold ixI; split <;> omega
theorem ix_abs {n : Int} (h0 : n ≠ 0) : (n.natAbs : Int) - 1 = (ixI n : Int) := by
  rw [ix_pos h0]; split <;> omega
theorem sg_mul {n d B : Int} (h1 : -B ≤ d) (h2 : d ≤ B) : -B ≤ sgI n * d ∧ sgI n * d ≤ B := by
  rcases sgI_or n with e | e <;> rw [e] <;> omega
theorem airwayOf_any (n : Int) (w : World) (h0 : n ≠ 0) (h1 : n.natAbs ≤ 1000) :
    Calls Tryz.prog 131 #[.int .i64 n] w fun e w' => e = .returned (.tuple #[.int .i64 (ixI n : Int), .int .i64 (sgI n)]) ∧ w = w' := by
  rw [ix_pos h0]
  by_cases h : 0 < n
  · rw [if_pos h, show sgI n = 1 by unfold sgI; rw [if_pos h]]
    go_enter Tryz.func131, Tryz.ntmps131
    go_wp2
    go_ret2
    exact ⟨rfl, rfl⟩
  · rw [if_neg h, show sgI n = -1 by unfold sgI; rw [if_neg h]]
    go_enter Tryz.func131, Tryz.ntmps131
    go_wp2
    go_ret2
    exact ⟨rfl, rfl⟩
theorem absS_any (n : Int) (w : World) (h1 : -9223372036854775807 ≤ n) (h2 : n ≤ 9223372036854775807) : Calls Tryz.prog 146 #[.int .i64 n] w fun e w' => e = .returned (.int .i64 (n.natAbs : Int)) ∧ w = w' := by
  have e : (n.natAbs : Int) = mx n (-n) := by unfold mx; split <;> omega
  rw [e]
  generalize hm : mx n (-n) = m
  go_enter Tryz.func146, Tryz.ntmps146
  go_wp2_with (go_at_call 141; refine (l00Max_any _ _ _).mono ?_; rintro e w' ⟨rfl, rfl⟩)
  go_ret
  exact ⟨rfl, rfl⟩
set_option maxRecDepth 100000 in
theorem walkError_any (nx : Nat) (AW : Option Addr) (cw : Nat) (wk : List Int) (AR : Option Addr) (cr : Nat) (rs : List Int) (AP : Option Addr) (cp : Nat) (ps : List Int) (AL : Option Addr) (cl : Nat) (fl : List Int) (B : Nat) (w : World) (hW : Ints B w AW wk) (hR : Ints B w AR rs) (hP : Ints B w AP ps) (hL : Ints B w AL fl) (hs : SysOk nx rs ps fl) (hw : WalkOk nx wk) (hn : nx ≤ 24) (hk : wk.length ≤ 100) :
    Calls Tryz.prog 129 #[.slice AW wk.length cw, .slice AR rs.length cr, .slice AP ps.length cp, .slice AL fl.length cl] w fun e w' => e = .returned (.int .i64 (errW rs ps fl wk)) ∧ ∃ n, w.drewN n = w' := by
  have HS := Lib.hid hs
  have HW := Lib.hid hw
  have JW := Lib.hid hW
  have JR := Lib.hid hR
  have JP := Lib.hid hP
  have JL := Lib.hid hL
  have HLR := Lib.hid hs.lr
  have HLP := Lib.hid hs.lp
  have HLL := Lib.hid hs.lf
  unfold errW
  clear hs hw hW hR hP hL
  go_enter Tryz.func129, Tryz.ntmps129
  go_wp2
  go_loopw [9, 16] (fun u ii wr => ∃ k : Nat, k ≤ wk.length ∧ ii = .int .i64 k ∧ u = .int .i64 (errK rs ps fl wk k) ∧ ∃ n, w.drewN n = wr) (fun _ ii _ => wk.length - (intOf ii).toNat)
  case atStart => exact ⟨0, Nat.zero_le _, rfl, rfl, 0, rfl⟩
  case round =>
    obtain ⟨k, hkl, rfl, rfl, nd, rfl⟩ := hrel
    by_cases hlt : k < wk.length
    · obtain ⟨hn0, hix, hna⟩ := HW.out k hlt
      obtain ⟨ad, rfl, -, hc⟩ := JW.out.atD hlt
      have hE := errK_bd HS.out HW.out k (by omega)
      have h1 := HS.out.res _ hix
      have h2 := HS.out.pus _ hix
      have h3 := HS.out.flo _ hix
      have h4 := dropZ_bd (by omega) h1.2 h3.1 h3.2
      have hst : errK rs ps fl wk (k + 1) = errK rs ps fl wk k + sgI (wk.getD k 0) * (dropZ (rs.getD (ixI (wk.getD k 0)) 0) (fl.getD (ixI (wk.getD k 0)) 0) - ps.getD (ixI (wk.getD k 0)) 0) := rfl
      have hm := sg_mul (n := wk.getD k 0) (d := dropZ (rs.getD (ixI (wk.getD k 0)) 0) (fl.getD (ixI (wk.getD k 0)) 0) - ps.getD (ixI (wk.getD k 0)) 0) (B := 1200000) (by omega) (by omega)
      obtain ⟨adr, rfl, -, hcr⟩ := JR.out.atD (k := ixI (wk.getD k 0)) (by have := HLR.out; omega)
      obtain ⟨adp, rfl, -, hcp⟩ := JP.out.atD (k := ixI (wk.getD k 0)) (by have := HLP.out; omega)
      obtain ⟨adl, rfl, -, hcl⟩ := JL.out.atD (k := ixI (wk.getD k 0)) (by have := HLL.out; omega)
      have z1 : (ixI (wk.getD k 0) : Int) < rs.length := by have := HLR.out; omega
      have z2 : (ixI (wk.getD k 0) : Int) < ps.length := by have := HLP.out; omega
      have z3 : (ixI (wk.getD k 0) : Int) < fl.length := by have := HLL.out; omega
      have HA := Lib.hid (fun W => airwayOf_any (wk.getD k 0) W hn0 (by omega))
      have HD := Lib.hid (fun W => dropOf_any (rs.getD (ixI (wk.getD k 0)) 0) (fl.getD (ixI (wk.getD k 0)) 0) W (by omega) h1.2 h3.1 h3.2)
      have HST := Lib.hid hst
      clear hst
      generalize dropZ (rs.getD (ixI (wk.getD k 0)) 0) (fl.getD (ixI (wk.getD k 0)) 0) = d at *
      generalize rs.getD (ixI (wk.getD k 0)) 0 = r at *
      generalize ps.getD (ixI (wk.getD k 0)) 0 = p at *
      generalize fl.getD (ixI (wk.getD k 0)) 0 = q at *
      generalize ixI (wk.getD k 0) = i at *
      generalize sgI (wk.getD k 0) = sg at *
      generalize wk.getD k 0 = n at *
      generalize errK rs ps fl wk k = e at *
      have i0 : (0 : Int) ≤ (k : Int) := by omega
      have i1 : (k : Int) < wk.length := by omega
      have z0 : (0 : Int) ≤ (i : Int) := by omega
      go_wp2_with (go_at_call 131; refine (HA.out _).mono ?_; rintro e w' ⟨rfl, rfl⟩)
      go_big_quiet ((go_at_call 163; first | (with_reducible exact quiet_d (HD.out _)) | (with_reducible exact quiet_d2 (HD.out _))))
      go_wp2
      go_roundw
      case rel => exact ⟨k + 1, by omega, by go_num, by rw [HST.out], _, rfl⟩
      case measure => simp [intOf]; omega
    · obtain rfl : k = wk.length := by omega
      go_wp2
      go_ret
      exact ⟨rfl, _, rfl⟩
set_option maxRecDepth 100000 in
theorem l07Error_any (nx : Nat) (AW : Option Addr) (cw : Nat) (wk : List Int) (AR : Option Addr) (cr : Nat) (rs : List Int) (AP : Option Addr) (cp : Nat) (ps : List Int) (AL : Option Addr) (cl : Nat) (fl : List Int) (B : Nat) (w : World) (hW : Ints B w AW wk) (hR : Ints B w AR rs) (hP : Ints B w AP ps) (hL : Ints B w AL fl) (hs : SysOk nx rs ps fl) (hw : WalkOk nx wk) (hn : nx ≤ 24) (hk : wk.length ≤ 100) :
    Calls Tryz.prog 147 #[.slice AR rs.length cr, .slice AP ps.length cp, .slice AL fl.length cl, .slice AW wk.length cw] w fun e w' => e = .returned (.int .i64 (errW rs ps fl wk)) ∧ ∃ n, w.drewN n = w' := by
  have HS := Lib.hid hs
  have HW := Lib.hid hw
  have JW := Lib.hid hW
  have JR := Lib.hid hR
  have JP := Lib.hid hP
  have JL := Lib.hid hL
  have HLR := Lib.hid hs.lr
  have HLP := Lib.hid hs.lp
  have HLL := Lib.hid hs.lf
  unfold errW
  clear hs hw hW hR hP hL
  go_enter Tryz.func147, Tryz.ntmps147
  go_wp2
  go_loopw [9, 10] (fun u ii wr => ∃ k : Nat, k ≤ wk.length ∧ ii = .int .i64 k ∧ u = .int .i64 (errK rs ps fl wk k) ∧ ∃ n, w.drewN n = wr) (fun _ ii _ => wk.length - (intOf ii).toNat)
  case atStart => exact ⟨0, Nat.zero_le _, rfl, rfl, 0, rfl⟩
  case round =>
    obtain ⟨k, hkl, rfl, rfl, nd, rfl⟩ := hrel
    by_cases hlt : k < wk.length
    · obtain ⟨hn0, hix, hna⟩ := HW.out k hlt
      obtain ⟨ad, rfl, -, hc⟩ := JW.out.atD hlt
      have hE := errK_bd HS.out HW.out k (by omega)
      have h1 := HS.out.res _ hix
      have h2 := HS.out.pus _ hix
      have h3 := HS.out.flo _ hix
      have h4 := dropZ_bd (by omega) h1.2 h3.1 h3.2
      have hst : errK rs ps fl wk (k + 1) = errK rs ps fl wk k + (if 0 < wk.getD k 0 then 1 else -1) * (dropZ (rs.getD (ixI (wk.getD k 0)) 0) (fl.getD (ixI (wk.getD k 0)) 0) - ps.getD (ixI (wk.getD k 0)) 0) := rfl
      obtain ⟨adr, rfl, -, hcr⟩ := JR.out.atD (k := ixI (wk.getD k 0)) (by have := HLR.out; omega)
      obtain ⟨adp, rfl, -, hcp⟩ := JP.out.atD (k := ixI (wk.getD k 0)) (by have := HLP.out; omega)
      obtain ⟨adl, rfl, -, hcl⟩ := JL.out.atD (k := ixI (wk.getD k 0)) (by have := HLL.out; omega)
      have z1 : (ixI (wk.getD k 0) : Int) < rs.length := by have := HLR.out; omega
      have z2 : (ixI (wk.getD k 0) : Int) < ps.length := by have := HLP.out; omega
      have z3 : (ixI (wk.getD k 0) : Int) < fl.length := by have := HLL.out; omega
      have HA := Lib.hid (fun W => absS_any (wk.getD k 0) W (by omega) (by omega))
      have hia := ix_abs hn0
      have HD := Lib.hid (fun W => l03Drop_any (rs.getD (ixI (wk.getD k 0)) 0) (fl.getD (ixI (wk.getD k 0)) 0) W (by omega) h1.2 h3.1 h3.2)
      have HST := Lib.hid hst
      clear hst
      generalize dropZ (rs.getD (ixI (wk.getD k 0)) 0) (fl.getD (ixI (wk.getD k 0)) 0) = d at *
      generalize rs.getD (ixI (wk.getD k 0)) 0 = r at *
      generalize ps.getD (ixI (wk.getD k 0)) 0 = p at *
      generalize fl.getD (ixI (wk.getD k 0)) 0 = q at *
      generalize ixI (wk.getD k 0) = i at *
      generalize wk.getD k 0 = n at *
      generalize errK rs ps fl wk k = e at *
      have i0 : (0 : Int) ≤ (k : Int) := by omega
      have i1 : (k : Int) < wk.length := by omega
      have z0 : (0 : Int) ≤ (i : Int) := by omega
      generalize (n.natAbs : Int) = na at *
      by_cases hp : 0 < n
      · have HS2 := Lib.hid (show errK rs ps fl wk (k + 1) = e + (d - p) by rw [HST.out, if_pos hp]; omega)
        go_wp2_with (go_at_call 146; refine (HA.out _).mono ?_; rintro e w' ⟨rfl, rfl⟩)
        go_big_quiet ((go_at_call 170; first | (with_reducible exact quiet_s (HD.out _)) | (with_reducible exact quiet_s2 (HD.out _))))
        go_wp2
        go_roundw
        case rel => exact ⟨k + 1, by omega, by go_num, by rw [HS2.out], _, rfl⟩
        case measure => simp [intOf]; omega
      · have HS2 := Lib.hid (show errK rs ps fl wk (k + 1) = e - (d - p) by rw [HST.out, if_neg hp]; omega)
        go_wp2_with (go_at_call 146; refine (HA.out _).mono ?_; rintro e w' ⟨rfl, rfl⟩)
        go_big_quiet ((go_at_call 170; first | (with_reducible exact quiet_s (HD.out _)) | (with_reducible exact quiet_s2 (HD.out _))))
        go_wp2
        go_roundw
        case rel => exact ⟨k + 1, by omega, by go_num, by rw [HS2.out], _, rfl⟩
        case measure => simp [intOf]; omega
    · obtain rfl : k = wk.length := by omega
      go_wp2
      go_ret
      exact ⟨rfl, _, rfl⟩
end Go.Proofs.YtejkoicgbgoiaaaGreat

/- Flows: the errors of all meshes, by the program and by the reference; the worst of numbers. Conditions: the facts on memory and on lengths that each theorem names. -/
namespace Go.Proofs.YtejkoicgbgoiaaaGreat
open Go.RowKit
open Pl
/-- Meshes that tell places in a list of nx numbers. -/
structure MeshOk (nx : Nat) (ms : List (List Int)) : Prop where
  few : ms.length ≤ 24
  each : ∀ k, k < ms.length → WalkOk nx (ms.getD k []) ∧ 0 < (ms.getD k []).length ∧ (ms.getD k []).length ≤ 100
def errsK (rs ps fl : List Int) (ms : List (List Int)) : Nat → List Int
  | 0 => []
  | k + 1 => errsK rs ps fl ms k ++ [errW rs ps fl (ms.getD k [])]
theorem errsK_length (rs ps fl : List Int) (ms : List (List Int)) : ∀ k, (errsK rs ps fl ms k).length = k
  | 0 => rfl
  | k + 1 => by unfold errsK; rw [List.length_append, errsK_length]; rfl
theorem errsK_map (rs ps fl : List Int) (ms : List (List Int)) : ∀ k, k ≤ ms.length → errsK rs ps fl ms k = (ms.take k).map (errW rs ps fl)
  | 0, _ => rfl
  | k + 1, h => by
    unfold errsK
    rw [errsK_map rs ps fl ms k (by omega), List.take_add_one, List.getElem?_eq_getElem (by omega), List.map_append]
    simp [List.getD, show k < ms.length by omega]
theorem errsK_all (rs ps fl : List Int) (ms : List (List Int)) : errsK rs ps fl ms ms.length = errsL rs ps fl ms := by
  rw [errsK_map _ _ _ _ _ (Nat.le_refl _), List.take_length]; rfl
theorem errsL_length (rs ps fl : List Int) (ms : List (List Int)) : (errsL rs ps fl ms).length = ms.length := List.length_map _
theorem errW_bd {nx : Nat} {rs ps fl wk : List Int} (h : SysOk nx rs ps fl) (hw : WalkOk nx wk) (hk : wk.length ≤ 100) : -120000000 ≤ errW rs ps fl wk ∧ errW rs ps fl wk ≤ 120000000 := by
  have := errK_bd h hw wk.length (Nat.le_refl _)
  unfold errW
  omega
theorem errsL_bd {nx : Nat} {rs ps fl : List Int} {ms : List (List Int)} (h : SysOk nx rs ps fl) (hm : MeshOk nx ms) {k : Nat} (hk : k < ms.length) : -120000000 ≤ (errsL rs ps fl ms).getD k 0 ∧ (errsL rs ps fl ms).getD k 0 ≤ 120000000 := by
  have e : (errsL rs ps fl ms).getD k 0 = errW rs ps fl (ms.getD k []) := by
    unfold errsL
    rw [getD_map _ ([] : List Int) _ hk]
  rw [e]
  obtain ⟨h1, _, h3⟩ := hm.each k hk
  exact errW_bd h h1 h3
theorem worstK_bd {es : List Int} {b : Int} (h : ∀ k, k < es.length → -b ≤ es.getD k 0 ∧ es.getD k 0 ≤ b) (hb : 0 ≤ b) : ∀ k, k ≤ es.length → 0 ≤ worstK es k ∧ worstK es k ≤ b
  | 0, _ => by unfold worstK; omega
  | k + 1, hk => by
    have ih := worstK_bd h hb k (by omega)
    have h1 := h k (by omega)
    unfold worstK
    rcases mx_or (worstK es k) ((es.getD k 0).natAbs : Int) with e | e <;> rw [e] <;> omega
set_option maxRecDepth 100000 in
set_option maxHeartbeats 1600000 in
theorem meshErrors_any (nx : Nat) (AM : Option Addr) (cm : Nat) (ms : List (List Int)) (AR : Option Addr) (cr : Nat) (rs : List Int) (AP : Option Addr) (cp : Nat) (ps : List Int) (AL : Option Addr) (cl : Nat) (fl : List Int) (w : World) (hM : Nest w.heap.size w AM ms) (hR : Ints w.heap.size w AR rs) (hP : Ints w.heap.size w AP ps) (hL : Ints w.heap.size w AL fl) (hs : SysOk nx rs ps fl) (hm : MeshOk nx ms) (hn : nx ≤ 24) :
    Calls Tryz.prog 94 #[.slice AM ms.length cm, .slice AR rs.length cr, .slice AP ps.length cp, .slice AL fl.length cl] w fun e w' => ∃ v, e = .returned v ∧ Own w.heap.size w' v (errsL rs ps fl ms) ∧ Below w.heap.size w w' := by
  obtain ⟨i0, hi, hz0, hz1, hz2⟩ := info_parts infoI
  have HF := Lib.hid (And.intro hi (And.intro hz0 (And.intro hz1 hz2)))
  have JM := Lib.hid hM
  have JR := Lib.hid hR
  have JP := Lib.hid hP
  have JL := Lib.hid hL
  have HS := Lib.hid hs
  have HM := Lib.hid hm
  have hf := hm.few
  rw [← errsK_all]
  clear hM hR hP hL hs hm hi hz0 hz1 hz2
  go_enter Tryz.func94, Tryz.ntmps94
  go_wp2
  go_loopw [9, 14] (fun u ii wr => ∃ k : Nat, k ≤ ms.length ∧ ii = .int .i64 k ∧ Below w.heap.size w wr ∧ Own w.heap.size wr u (errsK rs ps fl ms k)) (fun _ ii _ => ms.length - (intOf ii).toNat)
  case atStart => exact ⟨0, Nat.zero_le _, rfl, Below.refl _ _, Own.nil_ _ _⟩
  case round =>
    obtain ⟨k, hk, rfl, hb, ho⟩ := hrel
    have hsz := hb.size
    by_cases hlt : k < ms.length
    · obtain ⟨h1, h2, h3⟩ := HM.out.each k hlt
      obtain ⟨b, o, rfl, -, A', c', hc, hiw⟩ := (JM.out.below hb).atD hlt
      have HC := Lib.hid (walkError_any nx A' c' (ms.getD k []) AR cr rs AP cp ps AL cl fl w.heap.size wr hiw (JR.out.below hb) (JP.out.below hb) (JL.out.below hb) HS.out h1 hn h3)
      have hbd := errW_bd HS.out h1 h3
      have HST : Hid (errsK rs ps fl ms (k + 1) = errsK rs ps fl ms k ++ [errW rs ps fl (ms.getD k [])]) := Lib.hid rfl
      have hll : (errsK rs ps fl ms k).length ≤ 24 := by rw [errsK_length]; omega
      have j0 : (0 : Int) ≤ (k : Int) := by omega
      have j1 : (k : Int) < ms.length := by omega
      have HO := Lib.hid ho
      clear ho hiw h1 h2 h3
      generalize errsK rs ps fl ms k = es at *
      generalize errW rs ps fl (ms.getD k []) = x at *
      generalize ms.getD k [] = wk at *
      go_wp2_with fail
      refine HC.out.mono ?_
      rintro e w2 ⟨rfl, nd, rfl⟩
      have hb3 := below_drewN hb nd
      have HO3 := Lib.hid (HO.out.later (below_drewN (Below.refl _ _) nd))
      have hsz3 := hb3.size
      clear HC hc
      generalize wr.drewN nd = wd at *
      go_wp2_with (at_builtin; refine wpList_append_own_at _ rfl _ _ 25 rfl w.heap.size 2 i0 (.int .i64 0) 1 8 Tryz.underlying25 HF.out.1 HF.out.2.1 HF.out.2.2.1 HF.out.2.2.2 rfl (by decide) _ _ _ rfl (HO3.out.later ((Below.refl _ _).alloc (Nat.le_refl _) _)) ⟨wd.heap.size, 0, none⟩ 1 1 [.int .i64 x] rfl rfl (cell_one_new _ _ _) (by intro u hu; simp at hu; subst hu; rfl) (le_max (by omega)) (by omega) (by simp; omega) ?_; intro av aw ah ag an aa)
      have hbe2 : Below w.heap.size w aw := Below.appended hb3 HO3.out hsz3 ag
      have ho' := Own.appended ah
      clear ah ag an aa
      have HO4 := Lib.hid ho'
      clear ho'
      go_wp2
      go_roundw
      case rel => exact ⟨k + 1, by omega, by go_num, hbe2, by rw [HST.out]; exact HO4.out⟩
      case measure => simp [intOf]; omega
    · obtain rfl : k = ms.length := by omega
      have HO := Lib.hid ho
      clear ho
      go_wp2
      go_ret
      exact ⟨_, rfl, HO.out, hb⟩
set_option maxRecDepth 100000 in
set_option maxHeartbeats 1600000 in
theorem l07Errors_any (nx : Nat) (AM : Option Addr) (cm : Nat) (ms : List (List Int)) (AR : Option Addr) (cr : Nat) (rs : List Int) (AP : Option Addr) (cp : Nat) (ps : List Int) (AL : Option Addr) (cl : Nat) (fl : List Int) (w : World) (hM : Nest w.heap.size w AM ms) (hR : Ints w.heap.size w AR rs) (hP : Ints w.heap.size w AP ps) (hL : Ints w.heap.size w AL fl) (hs : SysOk nx rs ps fl) (hm : MeshOk nx ms) (hn : nx ≤ 24) :
    Calls Tryz.prog 111 #[.slice AM ms.length cm, .slice AR rs.length cr, .slice AP ps.length cp, .slice AL fl.length cl] w fun e w' => ∃ v, e = .returned v ∧ Own w.heap.size w' v (errsL rs ps fl ms) ∧ Below w.heap.size w w' := by
  obtain ⟨i0, hi, hz0, hz1, hz2⟩ := info_parts infoI
  have HF := Lib.hid (And.intro hi (And.intro hz0 (And.intro hz1 hz2)))
  have JM := Lib.hid hM
  have JR := Lib.hid hR
  have JP := Lib.hid hP
  have JL := Lib.hid hL
  have HS := Lib.hid hs
  have HM := Lib.hid hm
  have hf := hm.few
  rw [← errsK_all]
  clear hM hR hP hL hs hm hi hz0 hz1 hz2
  go_enter Tryz.func111, Tryz.ntmps111
  go_wp2
  go_loopw [9, 10] (fun u ii wr => ∃ k : Nat, k ≤ ms.length ∧ ii = .int .i64 k ∧ Below w.heap.size w wr ∧ Own w.heap.size wr u (errsK rs ps fl ms k)) (fun _ ii _ => ms.length - (intOf ii).toNat)
  case atStart => exact ⟨0, Nat.zero_le _, rfl, (Below.refl _ _).alloc (Nat.le_refl _) _, Own.empty (Nat.le_refl _)⟩
  case round =>
    obtain ⟨k, hk, rfl, hb, ho⟩ := hrel
    have hsz := hb.size
    by_cases hlt : k < ms.length
    · obtain ⟨h1, h2, h3⟩ := HM.out.each k hlt
      obtain ⟨b, o, rfl, -, A', c', hc, hiw⟩ := (JM.out.below hb).atD hlt
      have HC := Lib.hid (l07Error_any nx A' c' (ms.getD k []) AR cr rs AP cp ps AL cl fl w.heap.size wr hiw (JR.out.below hb) (JP.out.below hb) (JL.out.below hb) HS.out h1 hn h3)
      have hbd := errW_bd HS.out h1 h3
      have HST : Hid (errsK rs ps fl ms (k + 1) = errsK rs ps fl ms k ++ [errW rs ps fl (ms.getD k [])]) := Lib.hid rfl
      have hll : (errsK rs ps fl ms k).length ≤ 24 := by rw [errsK_length]; omega
      have j0 : (0 : Int) ≤ (k : Int) := by omega
      have j1 : (k : Int) < ms.length := by omega
      have HO := Lib.hid ho
      clear ho hiw h1 h2 h3
      generalize errsK rs ps fl ms k = es at *
      generalize errW rs ps fl (ms.getD k []) = x at *
      generalize ms.getD k [] = wk at *
      go_wp2_with fail
      refine HC.out.mono ?_
      rintro e w2 ⟨rfl, nd, rfl⟩
      have hb3 := below_drewN hb nd
      have HO3 := Lib.hid (HO.out.later (below_drewN (Below.refl _ _) nd))
      have hsz3 := hb3.size
      clear HC hc
      generalize wr.drewN nd = wd at *
      go_wp2_with (at_builtin; refine wpList_append_own_at _ rfl _ _ 25 rfl w.heap.size 2 i0 (.int .i64 0) 1 8 Tryz.underlying25 HF.out.1 HF.out.2.1 HF.out.2.2.1 HF.out.2.2.2 rfl (by decide) _ _ _ rfl (HO3.out.later ((Below.refl _ _).alloc (Nat.le_refl _) _)) ⟨wd.heap.size, 0, none⟩ 1 1 [.int .i64 x] rfl rfl (cell_one_new _ _ _) (by intro u hu; simp at hu; subst hu; rfl) (le_max (by omega)) (by omega) (by simp; omega) ?_; intro av aw ah ag an aa)
      have hbe2 : Below w.heap.size w aw := Below.appended hb3 HO3.out hsz3 ag
      have ho' := Own.appended ah
      clear ah ag an aa
      have HO4 := Lib.hid ho'
      clear ho'
      go_wp2
      go_roundw
      case rel => exact ⟨k + 1, by omega, by go_num, hbe2, by rw [HST.out]; exact HO4.out⟩
      case measure => simp [intOf]; omega
    · obtain rfl : k = ms.length := by omega
      have HO := Lib.hid ho
      clear ho
      go_wp2
      go_ret
      exact ⟨_, rfl, HO.out, hb⟩
set_option maxRecDepth 100000 in
theorem l07Worst_any (A : Option Addr) (c : Nat) (es : List Int) (B : Nat) (w : World) (hn : es.length ≤ 1000) (hI : Ints B w A es) (hb : ∀ k, k < es.length → -120000000 ≤ es.getD k 0 ∧ es.getD k 0 ≤ 120000000) :
    Calls Tryz.prog 110 #[.slice A es.length c] w fun e w' => e = .returned (.int .i64 (worstL es)) ∧ w = w' := by
  have J := Lib.hid hI
  have HB := Lib.hid hb
  unfold worstL
  clear hI hb
  go_enter Tryz.func110, Tryz.ntmps110
  go_wp2
  go_loop [3, 4] (fun u ii => ∃ k : Nat, k ≤ es.length ∧ ii = .int .i64 k ∧ u = .int .i64 (worstK es k)) (fun _ ii => es.length - (intOf ii).toNat)
  case atStart => exact ⟨0, Nat.zero_le _, rfl, rfl⟩
  case round =>
    obtain ⟨k, hk, rfl, rfl⟩ := hrel
    by_cases hlt : k < es.length
    · obtain ⟨ad, rfl, -, hc⟩ := J.out.atD hlt
      have hx := HB.out k hlt
      have HST : Hid (worstK es (k + 1) = mx (worstK es k) ((es.getD k 0).natAbs : Int)) := Lib.hid rfl
      have HA := Lib.hid (fun W => absS_any (es.getD k 0) W (by omega) (by omega))
      generalize worstK es k = m at *
      generalize ((es.getD k 0).natAbs : Int) = na at *
      generalize es.getD k 0 = x at *
      have j0 : (0 : Int) ≤ (k : Int) := by omega
      have i1 : (k : Int) < es.length := by omega
      go_wp2_with (first | (go_at_call 146; refine (HA.out _).mono ?_; rintro e w' ⟨rfl, rfl⟩) | (go_at_call 141; refine (l00Max_any _ _ _).mono ?_; rintro e w' ⟨rfl, rfl⟩))
      go_round
      case rel => exact ⟨k + 1, by omega, by go_num, by rw [HST.out]⟩
      case measure => simp [intOf]; omega
    · obtain rfl : k = es.length := by omega
      go_wp2
      go_ret
      exact ⟨rfl, rfl⟩
end Go.Proofs.YtejkoicgbgoiaaaGreat
