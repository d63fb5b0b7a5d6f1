/- Fans and pressures that fit a mine: by the program and by the reference. Conditions: the facts on memory and on lengths that each theorem names. -/
import Derived.Test.YtlgagnbnjfneaaaHofR
import Derived.Test.YtlgagnbnjfneaaaLpF
import Derived.Test.YtlgagnbnjfneaaaDrop
namespace Go.Proofs.Ytlgagnbnjfneaaa
open Go.RowKit
open Pl
def hasFB (n : Nat) (fs : List Fa) : Bool := !(fs.any fun x => !inB x.aw 0 ((n : Int) - 1))
theorem hasFans1_any (bm : Nat) (A : Option Addr) (cp nx : Nat) (s : ByteArray) (a : Int) (A' : Option Addr) (n c' : Nat) (w : World) (hn : (nx : Int) ≤ 1099511627776) (hc : w.cell? ⟨bm, 1, none⟩ = some (.slice A nx cp)) :
    Calls Try.prog 137 #[.agg #[.string s, .int .i64 a, .slice A' n c'], .pointer (some ⟨bm, 0, none⟩)] w fun e w' => e = .returned (.bool (!inB a 0 ((nx : Int) - 1))) ∧ Below w.heap.size w w' := by
  have hb0 : Below w.heap.size w (w.alloc (.cells #[.string s, .int .i64 a, .slice A' n c'] 149)) := by go_grown
  have hc1 := Lib.cell?_alloc_some (.cells #[.string s, .int .i64 a, .slice A' n c'] 149) hc
  go_enter Try.func137, Try.ntmps137
  go_wp2_with (go_at_call 62; refine (indexValidA_any _ _ _ _ _ hn).mono ?_; rintro e w' ⟨rfl, rfl⟩)
  go_ret
  exact ⟨rfl, hb0⟩
set_option maxRecDepth 100000 in
theorem hasFans_any (J : Int) (A : Option Addr) (cp nx : Nat) (A2 : Option Addr) (c2 : Nat) (fs : List Fa) (B : Nat) (w : World) (hx : (nx : Int) ≤ 1099511627776) (hn : (fs.length : Int) ≤ 1099511627776) (hI : Fns B w A2 fs) (hB : B ≤ w.heap.size) :
    Calls Try.prog 82 #[.agg #[.int .i64 J, .slice A nx cp], .slice A2 fs.length c2] w fun e w' => e = .returned (.bool (hasFB nx fs)) ∧ Below w.heap.size w w' := by
  unfold hasFB
  have hb0 : Below w.heap.size w (w.alloc (.cells #[.int .i64 J, .slice A nx cp] 31)) := by go_grown
  have HI := Lib.hid ((hI.more hB).below hb0)
  have hc : (w.alloc (.cells #[.int .i64 J, .slice A nx cp] 31)).cell? ⟨w.heap.size, 1, none⟩ = some (.slice A nx cp) := by go_simp
  have hlt : w.heap.size < (w.alloc (.cells #[.int .i64 J, .slice A nx cp] 31)).heap.size := by simp
  have HT : Hid (TellsF 137 #[.pointer (some ⟨w.heap.size, 0, none⟩)] (fun a => !inB a 0 ((nx : Int) - 1)) (w.alloc (.cells #[.int .i64 J, .slice A nx cp] 31))) := Lib.hid (fun s a A' n c' W hb => hasFans1_any w.heap.size A cp nx s a A' n c' W hx ((hb.cell (p := ⟨w.heap.size, 1, none⟩) hlt).trans hc))
  have HC : Hid (Calls Try.prog 136 #[.slice A2 fs.length c2, .func (.func 137) #[] #[.pointer (some ⟨w.heap.size, 0, none⟩)]] (w.alloc (.cells #[.int .i64 J, .slice A nx cp] 31)) fun e w' => e = .returned (.bool (fs.any fun x => !inB x.aw 0 ((nx : Int) - 1))) ∧ Below (w.alloc (.cells #[.int .i64 J, .slice A nx cp] 31)).heap.size (w.alloc (.cells #[.int .i64 J, .slice A nx cp] 31)) w') := Lib.hid (ContainsFuncF_any 137 _ (enters_of Try.func137 (by kernel_rfl) rfl) A2 c2 fs w.heap.size _ _ hn HI.out hb0.size HT.out)
  clear hI hc HT HI
  generalize (fs.any fun x => !inB x.aw 0 ((nx : Int) - 1)) = r at *
  go_enter Try.func82, Try.ntmps82
  go_wp2_with fail
  refine HC.out.mono ?_
  rintro e w2 ⟨rfl, hb2⟩
  go_wp2_with fail
  go_ret
  exact ⟨rfl, hb0.trans (hb2.mono hb0.size)⟩
set_option maxRecDepth 100000 in
theorem l07Fans_any (bm om : Nat) (A : Option Addr) (cp nx : Nat) (A2 : Option Addr) (c2 : Nat) (fs : List Fa) (B : Nat) (w : World) (_ : (nx : Int) ≤ 1099511627776) (hp : ∀ x ∈ fs, 0 ≤ x.aw) (hn : (fs.length : Int) ≤ 1099511627776) (hI : Fns B w A2 fs) (mm : w.cell? ⟨bm, om + 1, none⟩ = some (.slice A nx cp)) :
    Calls Try.prog 127 #[.pointer (some ⟨bm, om, none⟩), .slice A2 fs.length c2] w fun e w' => e = .returned (.bool (hasFB nx fs)) ∧ ∃ n, w.drewN n = w' := by
  obtain ⟨m, m1, m2, m3, m4⟩ := any_stop (fun x : Fa => !inB x.aw 0 ((nx : Int) - 1)) fs nFa
  obtain ⟨R, hR⟩ : ∃ R, R = hasFB nx fs := ⟨_, rfl⟩
  rw [← hR]
  have HR : Hid (R = !decide (m < fs.length)) := Lib.hid (by rw [hR]; unfold hasFB; rw [m4])
  have M2 := Lib.hid m2
  have M3 := Lib.hid m3
  have J0 := Lib.hid hI
  have HP := Lib.hid hp
  clear hR m2 m3 m4 hI hp
  go_enter Try.func127, Try.ntmps127
  go_wp2
  go_loopw [5] (fun i wr => ∃ q : Nat, q ≤ m ∧ i = .int .i64 q ∧ ∃ n, w.drewN n = wr) (fun i _ => fs.length - (intOf i).toNat)
  case atStart => exact ⟨0, Nat.zero_le _, rfl, 0, rfl⟩
  case round =>
    obtain ⟨q, hq, rfl, n, rfl⟩ := hrel
    by_cases hlt : q < fs.length
    · obtain ⟨⟨s, a, cv⟩, hx'⟩ : ∃ x, fs.getD q nFa = x := ⟨_, rfl⟩
      obtain ⟨b, o, A', c', rfl, hab, c0, c1, c2', -⟩ := J0.out.at_ hlt hx'
      have ha : 0 ≤ a := by have := HP.out _ (List.getElem_mem hlt); rw [← getD_fa hlt, hx'] at this; exact this
      have i0 : (0 : Int) ≤ (q : Int) := by omega
      have i1 : (q : Int) < fs.length := by omega
      by_cases hqm : q < m
      · have hb := M2.out q hqm
        rw [hx'] at hb
        have hb : (!inB a 0 ((nx : Int) - 1)) = false := hb
        rw [Bool.not_eq_false', inB_iff] at hb
        have hd : decide ((nx : Int) ≤ a) = false := decide_eq_false (by omega)
        clear hx' hb
        go_wp2
        go_big_quiet (fail)
        go_wp2
        go_roundw
        case rel => exact ⟨q + 1, by omega, by go_num, _, rfl⟩
        case measure => simp [intOf]; omega
      · obtain rfl : m = q := by omega
        have hb := M3.out hlt
        rw [hx'] at hb
        have hb : (!inB a 0 ((nx : Int) - 1)) = true := hb
        have hb : ¬ inB a 0 ((nx : Int) - 1) = true := by simpa using hb
        rw [inB_iff] at hb
        have hd : decide ((nx : Int) ≤ a) = true := decide_eq_true (by omega)
        have HD := Lib.hid (decide_eq_true hlt)
        clear hx' hb
        go_wp2
        go_big_quiet (fail)
        go_wp2
        go_ret
        exact ⟨ret_bool (by rw [HR.out, HD.out]; rfl), _, (World.drewN_drewN _ _ _).symm⟩
    · have HD := Lib.hid (decide_eq_false (show ¬ m < fs.length by omega))
      go_wp2
      go_ret
      exact ⟨ret_bool (by rw [HR.out, HD.out]; rfl), _, rfl⟩
end Go.Proofs.Ytlgagnbnjfneaaa
