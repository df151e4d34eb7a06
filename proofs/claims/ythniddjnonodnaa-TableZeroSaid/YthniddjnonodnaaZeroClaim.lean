/- What nobody made answers nothing: the law's row, proved by evaluation. -/
import Derived.Test.YthniddjnonodnaaRows
import Derived.Test.YthniddjnonodnaaSh22
import Derived.Test.YthniddjnonodnaaZero
namespace Go.Proofs.Ythniddjnonodnaa
open Go.ChangeShapes Go.WideShapes Go.ChangeAt Go.RowKit

theorem Try.own : ownKnob Try.prog.godebug = none := by kernel_rfl
theorem Try.laidOut : laidOutB Try.prog = true := by kernel_rfl

namespace Sh
def goodT : (k : KT) → ElT k → Prop
  | .value, v => (Lit.int .i64 v.type).wf = true ∧ (Lit.int .u64 v.bits).wf = true ∧ (Lit.int .i64 v.ref.kind).wf = true ∧ (Lit.int .u64 v.ref.addr).wf = true
  | _, _ => True

theorem typed_value {us : List V} (h : Typed goodT [.i .i64, .i .u64, .i .i64, .i .u64, .b] us) : ∃ v : Val, us = encVal v ∧ goodT .value v := by
  match us, h with
  | [.int k1 a, .int k2 b, .int k3 c, .int k4 d, .bool e], h =>
    obtain ⟨⟨rfl, h1⟩, ⟨rfl, h2⟩, ⟨rfl, h3⟩, ⟨rfl, h4⟩, _⟩ := h
    exact ⟨⟨a, b, ⟨c, d, e⟩⟩, rfl, h1, h2, h3, h4⟩
end Sh

set_option maxRecDepth 100000 in
theorem z_lifted (os : Os) (started : os.Started) (H : Type) (enc : TypeId × Value → H) :
    ReturnsInHanded {} Try.checked os 6 .any (Rows.tableZeroSpec.pre6 enc Try.prog Try.f6 Rows.tableZeroRow.domain false) (Rows.tableZeroSpec.post enc Try.prog Try.f6 false true false false) := by
  refine returnsInHanded_of_change (C := Try.checked) Try.own started (by kernel_rfl) Try.func6
    (ChangeSpec.witness6 (enc := enc) (C := Try.checked) false ⟨#[], #[.int .u64 0, .agg #[.int .i64 0, .int .u64 0, .int .i64 0, .int .u64 0, .bool false]], []⟩ 8 (by kernel_rfl) (by kernel_rfl) (by kernel_rfl) (by kernel_rfl)) ?_
  intro W base args ds gs before hval0 hW hcnd _
  have hval : ∀ (j : Nat) t v, Try.f6.params[j]? = some t → args[j]? = some v → Value.okWide Try.prog W .any base t v := hval0
  have hW' := hW
  obtain ⟨p, q, hA0, hV, rfl, hfz, hnd⟩ := hW
  have hA : DataW.TrodAll enc Try.prog W 0 (fun _ => true) true Try.f6.params.toList args.toList ds p := hA0
  rw [Try.params6] at hA hval
  obtain ⟨v0, v1, d0, d1, p0, p1, rfl, rfl, rfl, h0, h1⟩ := trodAll_two hA
  obtain ⟨rfl, rfl⟩ := trodVars_none hV
  obtain ⟨a, rfl, rfl, rfl, wa⟩ := open_int Try.underlying22 (hval 0 22 v0 rfl rfl) h0
  obtain ⟨us, hus, hv1⟩ := Sh.arg_agg (S := Sh.S) Sh.goodT (m := 20) Try.underlying26 rfl (hval 1 26 v1 rfl rfl) h1
  obtain ⟨v, rfl, _⟩ := Sh.typed_value hus
  refine (Sh.calls_true ((Sh.z_tableZero a v).mono fun r H' h => h.1) rfl fun j u hj => ?_).mono fun e W' ⟨he, hw⟩ => ?_
  · match j, hj with
    | 0, hj => cases hj; exact ⟨_, rfl, Sh.VR.int _ _⟩
    | 1, hj => cases hj; exact ⟨_, rfl, hv1⟩
  · subst he
    exact ⟨_, rfl, Sh.post_true Try.laidOut (by kernel_rfl) rfl rfl Try.underlying4 hW' rfl hw⟩

theorem tableZero_holds : Rows.TableZeroSaid :=
  OpenClaim.holds_of_wide 6 Try.f6 rfl rfl rfl rfl rfl rfl rfl ⟨rfl, rfl, rfl, rfl, rfl⟩ rfl rfl rfl rfl rfl (by kernel_rfl) Try.func6 (by kernel_rfl)
    (of_decide_eq_true (by kernel_rfl)) (by unfold Func.isWrapper; first | (rw [if_pos (by decide +kernel)]; kernel_rfl) | (rw [if_neg (by decide +kernel)]; exact ⟨rfl, rfl⟩))
    (fun os started H enc _ => z_lifted os started H enc)

end Go.Proofs.Ythniddjnonodnaa
