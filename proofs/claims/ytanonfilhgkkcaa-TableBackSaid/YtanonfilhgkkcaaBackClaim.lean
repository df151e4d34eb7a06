/- TableBack: what is set is told; copied away and back it is as it was: the law's row, proved by evaluation. Conditions: those of the given row. -/
import Derived.Test.YtanonfilhgkkcaaRows
import Derived.Test.YtanonfilhgkkcaaReads
import Derived.Test.YtanonfilhgkkcaaBack
namespace Go.Proofs.Ytanonfilhgkkcaa
open Go.ChangeShapes Go.WideShapes Go.ChangeAt Go.RowKit

theorem Try.own : ownKnob Try.prog.godebug = none := by kernel_rfl
theorem Try.laidOut : laidOutB Try.prog = true := by kernel_rfl

namespace Sh
theorem typed_value {us : List V} (h : Typed goodT [.i .i64, .i .u64, .i .i64, .i .u64, .b] us) : ∃ v : Val, us = encVal v ∧ goodV v := by
  obtain ⟨x, h1, h2⟩ := makeT .value us h
  exact ⟨x, h1.symm, h2⟩

theorem u8_nat {a : Int} (h : (Lit.int .u8 a).wf = true) : ∃ n : Nat, a = n ∧ n ≤ 255 := by
  obtain ⟨h1, h2⟩ := lit_wf_int h
  have h1' : (0 : Int) ≤ a := h1
  have h2' : a ≤ 255 := h2
  exact ⟨a.toNat, by omega, by omega⟩
end Sh

set_option maxRecDepth 100000 in
theorem b_lifted (os : Os) (started : os.Started) (H : Type) (enc : TypeId × Value → H) :
    ReturnsInHanded {} Try.checked os 3 .any (Rows.tableBackSpec.pre6 enc Try.prog Try.f3 Rows.tableBackRow.domain false) (Rows.tableBackSpec.post enc Try.prog Try.f3 false true false false) := by
  refine returnsInHanded_of_change (C := Try.checked) Try.own started (by kernel_rfl) Try.func3
    (ChangeSpec.witness6 (enc := enc) (C := Try.checked) false ⟨#[], #[.int .u8 0, .int .u8 0, .int .u8 0, .int .u8 0, .agg #[.int .i64 0, .int .u64 0, .int .i64 0, .int .u64 0, .bool false], .agg #[.int .i64 0, .int .u64 0, .int .i64 0, .int .u64 0, .bool false]], []⟩ 8 (by kernel_rfl) (by kernel_rfl) (by kernel_rfl) (by kernel_rfl)) ?_
  intro W base args ds gs before hval0 hW hcnd _
  have hval : ∀ (j : Nat) t v, Try.f3.params[j]? = some t → args[j]? = some v → Value.okWide Try.prog W .any base t v := hval0
  have hW' := hW
  obtain ⟨p, q, hA0, hV, rfl, hfz, hnd⟩ := hW
  have hA : DataW.TrodAll enc Try.prog W 0 (fun _ => true) true Try.f3.params.toList args.toList ds p := hA0
  rw [Try.params3] at hA hval
  obtain ⟨rfl, rfl⟩ := trodVars_none hV
  obtain ⟨v0, r0, d0, e0, p0, q0, hl0, rfl, rfl, h0, hA⟩ := trodAll_cons hA
  obtain ⟨v1, r1, d1, e1, p1, q1, rfl, rfl, rfl, h1, hA⟩ := trodAll_cons hA
  obtain ⟨v2, r2, d2, e2, p2, q2, rfl, rfl, rfl, h2, hA⟩ := trodAll_cons hA
  obtain ⟨v3, r3, d3, e3, p3, q3, rfl, rfl, rfl, h3, hA⟩ := trodAll_cons hA
  obtain ⟨v4, r4, d4, e4, p4, q4, rfl, rfl, rfl, h4, hA⟩ := trodAll_cons hA
  obtain ⟨v5, r5, d5, e5, p5, q5, rfl, rfl, rfl, h5, hA⟩ := trodAll_cons hA
  obtain ⟨rfl, rfl, rfl⟩ := trodAll_nil hA
  obtain rfl : args = #[v0, v1, v2, v3, v4, v5] := by rw [← Array.toArray_toList (xs := args), hl0]
  obtain ⟨a0, rfl, rfl, rfl, w0⟩ := open_int Try.underlying5 (hval 0 5 v0 rfl rfl) h0
  obtain ⟨a1, rfl, rfl, rfl, w1⟩ := open_int Try.underlying5 (hval 1 5 v1 rfl rfl) h1
  obtain ⟨a2, rfl, rfl, rfl, w2⟩ := open_int Try.underlying5 (hval 2 5 v2 rfl rfl) h2
  obtain ⟨a3, rfl, rfl, rfl, w3⟩ := open_int Try.underlying5 (hval 3 5 v3 rfl rfl) h3
  obtain ⟨n0, rfl, k0⟩ := Sh.u8_nat w0
  obtain ⟨n1, rfl, k1⟩ := Sh.u8_nat w1
  obtain ⟨n2, rfl, k2⟩ := Sh.u8_nat w2
  obtain ⟨n3, rfl, k3⟩ := Sh.u8_nat w3
  obtain ⟨us, hus, hv4⟩ := Sh.arg_agg Sh.ok Sh.RT (m := 20) Try.underlying26 (by kernel_rfl) (hval 4 26 v4 rfl rfl) h4
  obtain ⟨v, rfl, _⟩ := Sh.typed_value hus
  obtain ⟨us, hus, hv5⟩ := Sh.arg_agg Sh.ok Sh.RT (m := 20) Try.underlying26 (by kernel_rfl) (hval 5 26 v5 rfl rfl) h5
  obtain ⟨u, rfl, _⟩ := Sh.typed_value hus
  refine (Sh.calls_true ((Sh.c_back n0 n1 n2 n3 k0 k1 k2 k3 v u).mono fun r H' h => h.1) trivial (fun b hb => by cases hb) rfl fun j u hj => ?_).mono fun e W' ⟨he, hw⟩ => ?_
  · match j, hj with
    | 0, hj => cases hj; exact ⟨_, rfl, Sh.VR.int _ _⟩
    | 1, hj => cases hj; exact ⟨_, rfl, Sh.VR.int _ _⟩
    | 2, hj => cases hj; exact ⟨_, rfl, Sh.VR.int _ _⟩
    | 3, hj => cases hj; exact ⟨_, rfl, Sh.VR.int _ _⟩
    | 4, hj => cases hj; exact ⟨_, rfl, hv4⟩
    | 5, hj => cases hj; exact ⟨_, rfl, hv5⟩
  · subst he
    exact ⟨_, rfl, Sh.post_true Try.laidOut (by kernel_rfl) rfl rfl Try.underlying4 hW' rfl hw⟩

theorem tableBack_holds : Rows.TableBackSaid :=
  OpenClaim.holds_of_wide 3 Try.f3 rfl rfl rfl rfl rfl rfl rfl ⟨rfl, rfl, rfl, rfl, rfl⟩ rfl rfl rfl rfl rfl (by kernel_rfl) Try.func3 (by kernel_rfl)
    (of_decide_eq_true (by kernel_rfl)) (by unfold Func.isWrapper; first | (rw [if_pos (by decide +kernel)]; kernel_rfl) | (rw [if_neg (by decide +kernel)]; exact ⟨rfl, rfl⟩))
    (fun os started H enc _ => b_lifted os started H enc)

end Go.Proofs.Ytanonfilhgkkcaa
