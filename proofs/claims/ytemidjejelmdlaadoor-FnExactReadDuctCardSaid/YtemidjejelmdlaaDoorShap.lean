/- The frame of a law on a string that reads laid variables, the world's shape kept; and what the laid variables give a walk. No conditions. -/
import Derived.Test.YtemidjejelmdlaaDoorRdW
import Derived.Test.YtemidjejelmdlaaDoorRows
import Derived.HandedShaped
import Derived.LaidMore
import Derived.ProofKit
import Derived.Stop.LaidErr
import Derived.LaidLaws
import Derived.Lib.LaidTab
namespace Go.Proofs.YtemidjejelmdlaaDoor
open Go Go.ChangeShapes Go.WideShapes Go.ChangeAt Go.RowKit
section
variable {H : Type} {enc : TypeId × Value → H}
theorem handed_shaped {a : Assume} {C : Checked} {os : Os} {f : FuncId} {fn : Func} {s : ChangeSpec} {conds : List PathCond} {apart fresh handsOn again : Bool} {X : World → Array Value → Prop}
    (hX : ∀ (w w' : World) (args : Array Value), w.heap = w'.heap → X w args → X w' args)
    (own : ownKnob C.prog.godebug = none) (started : os.Started) (noInit : C.prog.inits.idxOf? f = none) (hfn : C.prog.funcs[f]? = some fn)
    (witness : ∃ (w : World) (tape : Tape) (i : Input), w.os = os ∧ (w.forCall tape i).Shaped C.prog ∧ i.vars = [] ∧ Input.okWide C.prog (w.forCall tape i) .any w.heap.size f i ∧
      ((s.pre enc C.prog fn conds apart (w.forCall tape i).memory i.args ∧ X (w.forCall tape i).memory i.args) ∧ sizedMet enc C.prog fn (OpenSpec.ofChange s) apart (w.forCall tape i).memory i.args) ∧ a.holds C.prog (lone (Frame.enter C.prog f i.args .normal) [] (w.forCall tape i)))
    (contract : ∀ (W : World) (base : Nat) (args : Array Value) (ds gs : List (DataW H)) (before : List MemPlace),
      (∀ (j : Nat) t v, fn.params[j]? = some t → args[j]? = some v → Value.okWide C.prog W .any base t v) →
      DataW.Whole enc C.prog fn.params.toList s.vars apart W args.toList ds gs before →
      W.ShapedOpen C.prog → X W args →
      Calls C.prog f args W fun e W' => ∃ v, e = .returned v ∧ s.post enc C.prog fn apart fresh handsOn again W args v W') :
    ReturnsInHanded a C os f .any (fun w args => (s.pre enc C.prog fn conds apart w args ∧ X w args) ∧ sizedMet enc C.prog fn (OpenSpec.ofChange s) apart w args) (s.post enc C.prog fn apart fresh handsOn again) := by
  refine returnsInHanded_of_calls own started noInit witness ?_
  intro w tape i _ hsh _ hok hpre _
  obtain ⟨_, _, _, fn', hfn', _, _, _, _, hval⟩ := hok
  have e : fn' = fn := Option.some.inj (hfn'.symm.trans hfn)
  subst e
  obtain ⟨⟨⟨ds, gs, before, hw, _⟩, hx⟩, _⟩ := hpre
  have hw' := DataW.Whole.of_heap (w' := w.forCall tape i) (by rfl) hw
  refine (contract (w.forCall tape i) w.heap.size i.args ds gs before hval hw' hsh (hX _ _ _ (by rfl) hx)).mono fun e W' ⟨v, he, hp⟩ => ?_
  subst he
  exact ChangeSpec.post_blind hp
end
theorem starE : "*" ++ "errors.errorString" = "*errors.errorString" := by decide
theorem rowE (u : TypeId) (h : Tryd.prog.typeName? 3 u = some "*errors.errorString") : u = 147 :=
  typeName_ptr_named (nm := "errors.errorString") (by rw [starE]; kernel_rfl) (by kernel_rfl) (by decide) u (by rw [starE]; exact h)
theorem gPow : Tryd.prog.globalNamed "internal/strconv.uint64pow10" = some 1 := by kernel_rfl
theorem tPow : (Tryd.prog.globals[1]?).map (·.type) = some 118 := by kernel_rfl
theorem gSyn : Tryd.prog.globalNamed "strconv.ErrSyntax" = some 2 := by kernel_rfl
theorem tSyn : (Tryd.prog.globals[2]?).map (·.type) = some 90 := by kernel_rfl
theorem gRng : Tryd.prog.globalNamed "strconv.ErrRange" = some 3 := by kernel_rfl
theorem tRng : (Tryd.prog.globals[3]?).map (·.type) = some 90 := by kernel_rfl
theorem cEs : Tryd.prog.cellsOf 149 = 1 := by kernel_rfl
theorem cStr : Tryd.prog.cellsOf 9 = 1 := by kernel_rfl
theorem of_laid_read {W : World} (h : laidMetH Tryd.prog Rows.fnExactReadDustingRow.laid W) (hsh : W.ShapedOpen Tryd.prog) : Lies W := by
  rw [MakeChecks.laidMetH_plain _ _ _ (by kernel_rfl)] at h
  have h3 := laidMet.tail (laidMet.tail h)
  have hT : Tab W := Lib.tabBelow_of_tabIs (Lib.tabIs_of_head gPow tPow Tryd.underlying118 Tryd.underlying104 (by kernel_rfl) (by kernel_rfl) h3)
  have h5 := laidMet.tail (laidMet.tail h3)
  obtain ⟨a1, _, v1, _⟩ := laid_sentinel h5 gRng tRng Tryd.underlying90 rowE Tryd.underlying147 Tryd.underlying149 rfl rfl Tryd.underlying9 cEs cStr
  obtain ⟨a2, _, v2, _⟩ := laid_sentinel (laidMet.tail h5) gSyn tSyn Tryd.underlying90 rowE Tryd.underlying147 Tryd.underlying149 rfl rfl Tryd.underlying9 cEs cStr
  exact ⟨hT, fun W' hb => ⟨⟨_, _, var_below v2 hb⟩, ⟨_, _, var_below v1 hb⟩⟩, Tryd.laysM145.s1_3 W hsh⟩
end Go.Proofs.YtemidjejelmdlaaDoor
