/- Lists of doors: when one is valid in a mine, by the program. Conditions: the facts on memory and on lengths that each theorem names. Printed by gen_doors.py. -/
import Derived.Test.YtlgagnbnjfneaaaDoorV
namespace Go.Proofs.Ytlgagnbnjfneaaa
open Go.RowKit
open Pl
def ordD (ds : List Do) (k : Nat) : Bool := decide (k = 0) || Op.bytesLess (ds.getD (k - 1) nDo).id.toList (ds.getD k nDo).id.toList
def soleD (ds : List Do) (k : Nat) : Bool := !((ds.take k).any fun x => x.i0 == (ds.getD k nDo).i0)
noncomputable def dOkB (d : Do) : Bool := doorB d.id d.i0 d.i1 d.i2
noncomputable def doorsP (nx : Nat) (ds : List Do) (k : Nat) : Bool := dOkB (ds.getD k nDo) && (inB (ds.getD k nDo).i0 0 ((nx : Int) - 1) && (ordD ds k && soleD ds k))
noncomputable def doorsB (J : Int) (xs : List Aw) (ds : List Do) : Bool := mineB J xs && (decide ((ds.length : Int) ≤ 8) && allUp (doorsP xs.length ds) ds.length)
theorem ordD_succ (ds : List Do) (k : Nat) : ordD ds (k + 1) = Op.bytesLess (ds.getD k nDo).id.toList (ds.getD (k + 1) nDo).id.toList := by unfold ordD; simp
theorem Recs.takeDo {B : Nat} {w : World} {A : Option Addr} {ds : List Do} (h : Recs encDo 4 B w A ds) (n : Nat) : Recs encDo 4 B w A (ds.take n) := by
  intro hp
  have hl : (ds.take n).length ≤ ds.length := by rw [List.length_take]; omega
  obtain ⟨b, o, e, hb, hc⟩ := h (by omega)
  refine ⟨b, o, e, hb, fun k hk j u hu => ?_⟩
  rw [List.getElem_take] at hu
  exact hc k (by omega) j u hu
theorem doors1_any (bm : Nat) (s : ByteArray) (a u v a0 : Int) (w : World) (hc : w.cell? ⟨bm, 1, none⟩ = some (.int .i64 a0)) :
    Calls Try.prog 133 #[.agg #[.string s, .int .i64 a, .int .i64 u, .int .i64 v], .pointer (some ⟨bm, 0, none⟩)] w fun e w' => e = .returned (.bool (a == a0)) ∧ Below w.heap.size w w' := by
  have hc1 := Lib.cell?_alloc_some (.cells #[.string s, .int .i64 a, .int .i64 u, .int .i64 v] 147) hc
  go_enter Try.func133, Try.ntmps133
  go_wp2
  go_ret
  exact ⟨rfl, by go_grown⟩
end Go.Proofs.Ytlgagnbnjfneaaa
