/- A checker that nobody made: the law's row and its tied card, proved by evaluation. -/
import Derived.Test.YtagihcapdcojiaaDoorRows
import Derived.Test.YtagihcapdcojiaaDoorCards
import Derived.Test.YtagihcapdcojiaaDoorTie
import Derived.Test.YtagihcapdcojiaaDoorSh22
import Derived.LaidMore
import Derived.OpenShut
import Derived.Stop.Joined
import Derived.Test.YtagihcapdcojiaaDoorZero
namespace Go.Proofs.YtagihcapdcojiaaDoor
open Go.ChangeShapes Go.WideShapes Go.ChangeAt Go.RowKit

theorem Tryd.own : ownKnob Tryd.prog.godebug = none := by kernel_rfl
theorem Tryd.laidOut : laidOutB Tryd.prog = true := by kernel_rfl

namespace Sh
def goodT : (k : KT) → ElT k → Prop
  | _, _ => True

theorem typed_vt {us : List V} (h : Typed goodT [.i .i64, .b, .i .i64] us) : ∃ v : El_vt, us = enc_vt v := by
  match us, h with
  | [.int k1 a, .bool b, .int k3 c], h =>
    obtain ⟨⟨rfl, h1⟩, _, ⟨rfl, h3⟩, _⟩ := h
    exact ⟨⟨a, b, c⟩, rfl⟩
end Sh

theorem door_met (os : Os) (args : Array Value) : laidMetH Tryd.prog Rows.stackZeroRow.laid ((World.doorLaid Tryd.prog 4000 os).forCall (fun _ _ => 0) ⟨#[], args, []⟩).memory :=
  laidMetH_of_parts3 (fuel := 8) (laidMet_of_run' 8 (by kernel_rfl) (by kernel_rfl)) (by kernel_rfl) (by kernel_rfl)

set_option maxRecDepth 100000 in
theorem z_lifted (os : Os) (started : os.Started) (H : Type) (enc : TypeId × Value → H) :
    ReturnsInHanded {} Tryd.checked os 5 .any (fun w args => (Rows.stackZeroSpec.pre enc Tryd.prog Tryd.f5 [] false w args ∧ laidMetH Tryd.prog Rows.stackZeroRow.laid w) ∧ sizedMet enc Tryd.prog Tryd.f5 (OpenSpec.ofChange Rows.stackZeroSpec) false w args)
      (Rows.stackZeroSpec.post enc Tryd.prog Tryd.f5 false true false false) := by
  refine returnsInHanded_of_change_and (C := Tryd.checked) (X := fun w _ => laidMetH Tryd.prog Rows.stackZeroRow.laid w) (fun _ _ _ hh h => h.of_heap hh) Tryd.own started (by kernel_rfl) Tryd.func5
    (ChangeSpec.witness_shaped (enc := enc) (C := Tryd.checked) (os := os) (X := fun w _ => laidMetH Tryd.prog Rows.stackZeroRow.laid w) false (World.doorLaid Tryd.prog 4000 os) #[.agg #[.int .i64 0, .bool false, .int .i64 0], .int .u32 0] 8 rfl (World.shaped_of_RefB (by kernel_rfl) (by kernel_rfl)) (by kernel_rfl) (by kernel_rfl) (by kernel_rfl) (door_met os _)) ?_
  intro W base args ds gs before hval0 hW _ _ hL _
  have hval : ∀ (j : Nat) t v, Tryd.f5.params[j]? = some t → args[j]? = some v → Value.okWide Tryd.prog W .any base t v := hval0
  have hW' := hW
  obtain ⟨p, q, hA0, hV, rfl, hfz, hnd⟩ := hW
  have hA : DataW.TrodAll enc Tryd.prog W 0 (fun _ => true) true Tryd.f5.params.toList args.toList ds p := hA0
  rw [Tryd.params5] at hA hval
  obtain ⟨v0, v1, d0, d1, p0, p1, rfl, rfl, rfl, h0, h1⟩ := trodAll_two hA
  obtain ⟨rfl, rfl⟩ := trodVars_none hV
  obtain ⟨a, rfl, rfl, rfl, wa⟩ := open_int Tryd.underlying47 (hval 1 47 v1 rfl rfl) h1
  obtain ⟨us, hus, hv0⟩ := Sh.arg_agg (S := Sh.S) Sh.goodT (m := 20) Tryd.underlying44 rfl (hval 0 44 v0 rfl rfl) h0
  obtain ⟨v, rfl⟩ := Sh.typed_vt hus
  refine (Sh.calls_true ((Sh.z_stackZero v a).mono fun r H' h => h.1) rfl fun j u hj => ?_).mono fun e W' ⟨he, hw⟩ => ?_
  · match j, hj with
    | 0, hj => cases hj; exact ⟨_, rfl, hv0⟩
    | 1, hj => cases hj; exact ⟨_, rfl, Sh.VR.int _ _⟩
  · subst he
    exact ⟨_, rfl, Sh.post_true Tryd.laidOut (by kernel_rfl) rfl rfl Tryd.underlying4 hW' rfl hw⟩

theorem stackZero_holds : Rows.StackZeroSaid :=
  OpenClaim.holds_of_wide 5 Tryd.f5 rfl rfl rfl rfl rfl rfl rfl ⟨rfl, rfl, rfl, rfl, rfl⟩ rfl rfl rfl rfl rfl (by kernel_rfl) Tryd.func5 (by kernel_rfl)
    (of_decide_eq_true (by kernel_rfl)) (by unfold Func.isWrapper; first | (rw [if_pos (by decide +kernel)]; kernel_rfl) | (rw [if_neg (by decide +kernel)]; exact ⟨rfl, rfl⟩))
    (fun os started H enc _ => z_lifted os started H enc)

theorem stackZero_card : Rows.StackZeroCardSaid :=
  Claim7.holds_tied_plain_at .later [] [.data, .data, .data] true (true, "e189549cce793519ceeef857e068e65f2b93283e1e2ceb16dae94f837b562cad") false
    stackZero_holds (fun _ h => by cases h) (by kernel_rfl) (fun _ h => by cases h) stackZero_row_tie rfl ⟨rfl, rfl⟩ (by kernel_rfl) rfl
    (fun f fn hf hfn => by
      obtain rfl : f = 5 := Option.some.inj ((show Tryd.prog.funcNamed "ratchet/ratchetlaw13.StackZero" = some 5 by kernel_rfl).symm.trans hf) |>.symm
      obtain rfl : fn = Tryd.f5 := (Option.some.inj (Tryd.func5.symm.trans hfn)).symm
      exact ⟨by kernel_rfl, fun j t ht => by
        rw [Tryd.params5] at ht
        rcases j with _ | _ | j
        · obtain rfl : t = 44 := by simpa using ht.symm
          exact (show Tryd.prog.wantsStandIn 44 = false by kernel_rfl)
        · obtain rfl : t = 47 := by simpa using ht.symm
          exact (show Tryd.prog.wantsStandIn 47 = false by kernel_rfl)
        · simp at ht⟩)
    (by kernel_rfl)

end Go.Proofs.YtagihcapdcojiaaDoor
