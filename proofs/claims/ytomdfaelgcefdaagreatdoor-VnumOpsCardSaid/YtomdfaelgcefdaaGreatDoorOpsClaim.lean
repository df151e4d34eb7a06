/- VnumOps: the law's row and its tied card, proved by evaluation. Conditions: those of the given row. -/
import Derived.Test.YtomdfaelgcefdaaGreatDoorRows
import Derived.Test.YtomdfaelgcefdaaGreatDoorCards
import Derived.Test.YtomdfaelgcefdaaGreatDoorTie
import Derived.Test.YtomdfaelgcefdaaGreatDoorReads
import Derived.LaidMore
import Derived.OpenShut
import Derived.LaidSub
import Derived.Stop.Joined
import Derived.Test.YtomdfaelgcefdaaGreatDoorNE
namespace Go.Proofs.YtomdfaelgcefdaaGreatDoor
open Go.ChangeShapes Go.WideShapes Go.ChangeAt Go.RowKit

theorem Tryz.own : ownKnob Tryz.prog.godebug = none := by kernel_rfl
theorem Tryz.laidOut : laidOutB Tryz.prog = true := by kernel_rfl

theorem door_met (os : Os) (args : Array Value) : laidMetH Tryz.prog Rows.vnumOpsRow.laid ((World.doorLaid Tryz.prog 4000 os).forCall (fun _ _ => 0) ⟨#[], args, []⟩).memory :=
  laidMetH_of_parts3 (fuel := 8) (laidMet_of_run' 8 (by kernel_rfl) (by kernel_rfl)) (by kernel_rfl) (by kernel_rfl)

namespace Sh
theorem typed_lim {us : List V} {N : Nat} {good : (k : KT) → ElT k → Prop} (h : Typed N good [.b, .i .u64, .i .u64, .b] us) : ∃ x : El_lim, us = limC x := by
  obtain ⟨u0, us, rfl, h0, h⟩ := h.uncons
  obtain ⟨u1, us, rfl, h1, h⟩ := h.uncons
  obtain ⟨u2, us, rfl, h2, h⟩ := h.uncons
  obtain ⟨u3, us, rfl, h3, h⟩ := h.uncons
  obtain rfl := h.unnil
  obtain ⟨a0, rfl⟩ := h0.bool
  obtain ⟨a1, rfl, _⟩ := h1.int
  obtain ⟨a2, rfl, _⟩ := h2.int
  obtain ⟨a3, rfl⟩ := h3.bool
  exact ⟨⟨a0, a1, a2, a3⟩, rfl⟩
end Sh

set_option maxRecDepth 100000 in
theorem z_lifted (os : Os) (started : os.Started) (H : Type) (enc : TypeId × Value → H) :
    ReturnsInHanded {} Tryz.checked os 7 .any (fun w args => (Rows.vnumOpsSpec.pre enc Tryz.prog Tryz.f7 [] false w args ∧ laidMetH Tryz.prog Rows.vnumOpsRow.laid w) ∧ sizedMet enc Tryz.prog Tryz.f7 (OpenSpec.ofChange Rows.vnumOpsSpec) false w args)
      (Rows.vnumOpsSpec.post enc Tryz.prog Tryz.f7 false true false false) := by
  refine returnsInHanded_of_change_and (C := Tryz.checked) (X := fun w _ => laidMetH Tryz.prog Rows.vnumOpsRow.laid w) (fun _ _ _ hh h => h.of_heap hh) Tryz.own started (by kernel_rfl) Tryz.func7
    (ChangeSpec.witness_shaped (enc := enc) (C := Tryz.checked) (os := os) (X := fun w _ => laidMetH Tryz.prog Rows.vnumOpsRow.laid w) false (World.doorLaid Tryz.prog 4000 os) #[.int .i64 0, .agg #[.bool false, .int .u64 0, .int .u64 0, .bool false], .agg #[.bool false, .int .u64 0, .int .u64 0, .bool false]] 8 rfl (World.shaped_of_RefB (by kernel_rfl) (by kernel_rfl)) (by kernel_rfl) (by kernel_rfl) (by kernel_rfl) (door_met os _)) ?_
  intro W base args ds gs before hval0 hW _ _ hL _
  have hval : ∀ (j : Nat) t v, Tryz.f7.params[j]? = some t → args[j]? = some v → Value.okWide Tryz.prog W .any base t v := hval0
  have hW' := hW
  obtain ⟨p, q, hA0, hV, rfl, hfz, hnd⟩ := hW
  have hA : DataW.TrodAll enc Tryz.prog W 0 (fun _ => true) true Tryz.f7.params.toList args.toList ds p := hA0
  rw [Tryz.params7] at hA hval
  obtain ⟨rfl, rfl⟩ := trodVars_none hV
  obtain ⟨v0, r0, d0, e0, p0, q0, hl0, rfl, rfl, h0, hA⟩ := trodAll_cons hA
  obtain ⟨v1, r1, d1, e1, p1, q1, rfl, rfl, rfl, h1, hA⟩ := trodAll_cons hA
  obtain ⟨v2, r2, d2, e2, p2, q2, rfl, rfl, rfl, h2, hA⟩ := trodAll_cons hA
  obtain ⟨rfl, rfl, rfl⟩ := trodAll_nil hA
  obtain rfl : args = #[v0, v1, v2] := by rw [← Array.toArray_toList (xs := args), hl0]
  obtain ⟨a0, rfl, rfl, rfl, w0⟩ := open_int Tryz.underlying3 (hval 0 3 v0 rfl rfl) h0
  have w0 := Sh.lit_wf_int w0
  obtain ⟨us1, hu1, hv1⟩ := Sh.arg_agg Sh.ok (Sh.RT maxLen) .any (m := 20) Tryz.underlying81 (by kernel_rfl) (hval 1 _ v1 rfl rfl) h1 trivial
  obtain ⟨x, rfl⟩ := Sh.typed_lim hu1
  obtain ⟨us2, hu2, hv2⟩ := Sh.arg_agg Sh.ok (Sh.RT maxLen) .any (m := 20) Tryz.underlying81 (by kernel_rfl) (hval 2 _ v2 rfl rfl) h2 trivial
  obtain ⟨y, rfl⟩ := Sh.typed_lim hu2
  refine (Sh.calls_true ((Sh.c_law a0 x y w0).mono fun r H' h => h.1) trivial (fun b hb => by cases hb) rfl fun j u hj => ?_).mono fun e W' ⟨he, hw⟩ => ?_
  · match j, hj with
    | 0, hj => cases hj; exact ⟨_, rfl, Sh.VR.int _ _⟩
    | 1, hj => cases hj; exact ⟨_, rfl, hv1⟩
    | 2, hj => cases hj; exact ⟨_, rfl, hv2⟩
  · subst he
    exact ⟨_, rfl, Sh.post_true Tryz.laidOut (by kernel_rfl) rfl rfl Tryz.underlying4 hW' rfl hw⟩

theorem vnumOps_holds : Rows.VnumOpsSaid :=
  OpenClaim.holds_of_wide 7 Tryz.f7 rfl rfl rfl rfl rfl rfl rfl ⟨rfl, rfl, rfl, rfl, rfl⟩ rfl rfl rfl rfl rfl (by kernel_rfl) Tryz.func7 (by kernel_rfl)
    (of_decide_eq_true (by kernel_rfl)) (by unfold Func.isWrapper; first | (rw [if_pos (by decide +kernel)]; kernel_rfl) | (rw [if_neg (by decide +kernel)]; exact ⟨rfl, rfl⟩))
    (fun os started H enc _ => z_lifted os started H enc)

theorem vnumOps_card : Rows.VnumOpsCardSaid :=
  Claim7.holds_tied_plain_at .later [] _ _ _ _ vnumOps_holds (fun _ h => by cases h) (by kernel_rfl) (fun _ h => by cases h) vnumOps_row_tie rfl ⟨rfl, rfl⟩ (by kernel_rfl) rfl
    (fun f fn hf hfn => by
      obtain rfl : f = 7 := Option.some.inj ((show Tryz.prog.funcNamed Rows.vnumOpsRow.func = some 7 by kernel_rfl).symm.trans hf) |>.symm
      obtain rfl : fn = Tryz.f7 := (Option.some.inj (Tryz.func7.symm.trans hfn)).symm
      refine ⟨by kernel_rfl, fun j t ht => ?_⟩
      rw [Tryz.params7] at ht
      have h1 := Array.mem_of_getElem? ht
      have hall : (#[3, 81, 81] : Array TypeId).toList.all (fun t => !Tryz.prog.wantsStandIn t) = true := by kernel_rfl
      have h2 := List.all_eq_true.1 hall t (by simpa using h1)
      exact (by simpa using h2 : Tryz.prog.wantsStandIn t = false))
    (by kernel_rfl)

end Go.Proofs.YtomdfaelgcefdaaGreatDoor
