/- VrefConsts: what may stand in a constant expression: the law's row, proved by evaluation. Conditions: those of the given row: what comes in is of bulk at most 1048576. -/
import Derived.Test.YtjmcnobglookpaaRows
import Derived.Test.YtjmcnobglookpaaReads
import Derived.Test.YtjmcnobglookpaaVG
import Derived.OpenShut
import Derived.JoinedCond
namespace Go.Proofs.Ytjmcnobglookpaa
open Go.ChangeShapes Go.WideShapes Go.ChangeAt Go.RowKit

theorem Try.own : ownKnob Try.prog.godebug = none := by kernel_rfl
theorem Try.laidOut : laidOutB Try.prog = true := by kernel_rfl

namespace Sh
theorem bulk_one {H : Type} (d : DataW H) : 1 ≤ Rows.uptoBulk d := by
  cases d with
  | lit l => cases l <;> simp [Rows.uptoBulk]
  | nil => simp [Rows.uptoBulk]
  | ptr d => simp [Rows.uptoBulk]
  | slice elems spare => simp [Rows.uptoBulk]
  | agg parts => simp [Rows.uptoBulk]
  | iface t d => simp [Rows.uptoBulk]
  | map entries => simp [Rows.uptoBulk]
  | held h => simp [Rows.uptoBulk]

theorem bulk_part {H : Type} {d : DataW H} {l : List (DataW H)} (h : d ∈ l) : Rows.uptoBulk d ≤ Rows.uptoBulkAll l := by
  induction l with
  | nil => cases h
  | cons x r ih =>
    simp only [Rows.uptoBulkAll]
    cases List.mem_cons.1 h with
    | inl e => subst e; omega
    | inr e => have := ih e; omega

theorem bulk_len {H : Type} (l : List (DataW H)) : l.length ≤ Rows.uptoBulkAll l := by
  induction l with
  | nil => simp [Rows.uptoBulkAll]
  | cons x r ih => have := bulk_one x; simp only [Rows.uptoBulkAll, List.length_cons]; omega

theorem bulk_small {H : Type} : Small (Hd := H) 1048576 fun d => Rows.uptoBulk d ≤ 1048576 where
  sl {es sp} h _ := by
    simp only [Rows.uptoBulk] at h
    have := bulk_len es
    exact ⟨by omega, fun e he => by have := bulk_part he; omega⟩
  agg {ps} h p hp := by
    simp only [Rows.uptoBulk] at h
    have := bulk_part hp
    omega
  str {s} h _ := by
    simp only [Rows.uptoBulk, Array.length_toList] at h
    exact Nat.le_trans (Nat.le_succ _) h

theorem typed_ctx {us : List V} {N : Nat} {good : (k : KT) → ElT k → Prop} (h : Typed N good [.o, .sl .int, .o, .o, .sl .glob, .sl .int, .sl .vt, .i .i64, .o] us) : ∃ c : Cx, us = c.cells ∧ c.gs.length ≤ N := by
  obtain ⟨u0, us, rfl, h0, h⟩ := h.uncons
  obtain ⟨u1, us, rfl, h1, h⟩ := h.uncons
  obtain ⟨u2, us, rfl, h2, h⟩ := h.uncons
  obtain ⟨u3, us, rfl, h3, h⟩ := h.uncons
  obtain ⟨u4, us, rfl, h4, h⟩ := h.uncons
  obtain ⟨u5, us, rfl, h5, h⟩ := h.uncons
  obtain ⟨u6, us, rfl, h6, h⟩ := h.uncons
  obtain ⟨u7, us, rfl, h7, h⟩ := h.uncons
  obtain ⟨u8, us, rfl, h8, h⟩ := h.uncons
  obtain rfl := h.unnil
  obtain rfl := h0.cell
  obtain ⟨fu, rfl, _, _⟩ := h1.sl
  obtain rfl := h2.cell
  obtain rfl := h3.cell
  obtain ⟨gs, rfl, hg, _⟩ := h4.sl
  obtain ⟨ta, rfl, _, _⟩ := h5.sl
  obtain ⟨es, rfl, _, _⟩ := h6.sl
  obtain ⟨da, rfl, _⟩ := h7.int
  obtain rfl := h8.cell
  exact ⟨⟨fu, gs, ta, es, da⟩, rfl, hg⟩
end Sh

set_option maxRecDepth 100000 in
theorem s_lifted (os : Os) (started : os.Started) (H : Type) (enc : TypeId × Value → H) (F : Stop.Interp) :
    ReturnsInHanded {} Try.checked os 3 .any ((Rows.OpenSpec.upto Rows.vrefConstsSpec).pre6 enc Try.prog Try.f3 Rows.vrefConstsUptoRow.domain false) (((Rows.OpenSpec.upto Rows.vrefConstsSpec).at F).post enc Try.prog Try.f3 false true false false) := by
  refine returnsInHanded_of_cond (C := Try.checked) (s := Rows.OpenSpec.upto Rows.vrefConstsSpec) (k := Rows.uptoSmall) rfl Try.own started (by kernel_rfl) Try.func3
    (OpenSpec.witness (enc := enc) (C := Try.checked) (s := Rows.OpenSpec.upto Rows.vrefConstsSpec) (k := Rows.uptoSmall) rfl false ⟨#[], #[.agg #[.slice none 0 0, .slice none 0 0, .slice none 0 0, .slice none 0 0, .slice none 0 0, .slice none 0 0, .slice none 0 0, .int .i64 0, .slice none 0 0], .slice none 0 0, .int .i64 0, .int .i64 0], []⟩ 8 (by kernel_rfl) (by kernel_rfl) (by kernel_rfl)
      (x := ([.agg [.nil, .nil, .nil, .nil, .nil, .nil, .nil, .lit (.int .i64 0), .nil], .nil, .lit (.int .i64 0), .lit (.int .i64 0)], [], [])) (by kernel_rfl) rfl (by kernel_rfl)) ?_
  intro W base args ds gs before hval0 hW _ hk _
  have hval : ∀ (j : Nat) t v, Try.f3.params[j]? = some t → args[j]? = some v → Value.okWide Try.prog W .any base t v := hval0
  have hW' := hW
  obtain ⟨p, q, hA0, hV, rfl, hfz, hnd⟩ := hW
  have hA : DataW.TrodAll enc Try.prog W 0 (fun _ => true) true Try.f3.params.toList args.toList ds p := hA0
  rw [Try.params3] at hA hval
  obtain ⟨rfl, rfl⟩ := trodVars_none hV
  have hbulk : ∀ d ∈ ds, Rows.uptoBulk d ≤ 1048576 := fun d hd => by
    have h1 : Rows.uptoBulkAll (ds ++ []) ≤ 1048576 := of_decide_eq_true hk
    rw [List.append_nil] at h1
    have := Sh.bulk_part hd
    omega
  obtain ⟨v0, r0, d0, e0, p0, q0, hl0, rfl, rfl, h0, hA⟩ := trodAll_cons hA
  obtain ⟨v1, r1, d1, e1, p1, q1, rfl, rfl, rfl, h1, hA⟩ := trodAll_cons hA
  obtain ⟨v2, r2, d2, e2, p2, q2, rfl, rfl, rfl, h2, hA⟩ := trodAll_cons hA
  obtain ⟨v3, r3, d3, e3, p3, q3, rfl, rfl, rfl, h3, hA⟩ := trodAll_cons hA
  obtain ⟨rfl, rfl, rfl⟩ := trodAll_nil hA
  obtain rfl : args = #[v0, v1, v2, v3] := by rw [← Array.toArray_toList (xs := args), hl0]
  obtain ⟨us, hus, hv0⟩ := Sh.arg_agg Sh.ok (Sh.RT 1048576) Sh.bulk_small (m := 20) Try.underlying30 (by kernel_rfl) (hval 0 _ v0 rfl rfl) h0 (hbulk _ (by simp))
  obtain ⟨c, rfl, hgl⟩ := Sh.typed_ctx hus
  obtain ⟨l, hll, hg, hvl⟩ := Sh.arg_slice Sh.ok (Sh.RT 1048576) Sh.bulk_small (k := .instr) Try.underlying31 (by kernel_rfl) (hval 1 _ v1 rfl rfl) h1 (hbulk _ (by simp))
  obtain ⟨a2, rfl, rfl, rfl, _⟩ := open_int Try.underlying3 (hval 2 3 v2 rfl rfl) h2
  obtain ⟨a3, rfl, rfl, rfl, _⟩ := open_int Try.underlying3 (hval 3 3 v3 rfl rfl) h3
  refine (Sh.calls_true ((Sh.c_law c l a2 a3 hll hgl hg).mono fun r H' h => h.1) trivial (fun b hb => by cases hb) rfl fun j u hj => ?_).mono fun e W' ⟨he, hw⟩ => ?_
  · match j, hj with
    | 0, hj => cases hj; exact ⟨_, rfl, hv0⟩
    | 1, hj => cases hj; exact ⟨_, rfl, hvl⟩
    | 2, hj => cases hj; exact ⟨_, rfl, Sh.VR.int _ _⟩
    | 3, hj => cases hj; exact ⟨_, rfl, Sh.VR.int _ _⟩
  · subst he
    exact ⟨_, rfl, Sh.post_true Try.laidOut (by kernel_rfl) rfl rfl Try.underlying4 hW' rfl hw⟩

theorem vrefConsts_holds : Rows.VrefConstsUptoSaid :=
  OpenClaim.holds_of_cond 3 Try.f3 rfl rfl rfl rfl rfl rfl rfl ⟨rfl, rfl, rfl, rfl, rfl⟩ rfl rfl rfl rfl rfl (by kernel_rfl) Try.func3 (by kernel_rfl)
    (of_decide_eq_true (by kernel_rfl)) (by unfold Func.isWrapper; first | (rw [if_pos (by decide +kernel)]; kernel_rfl) | (rw [if_neg (by decide +kernel)]; exact ⟨rfl, rfl⟩))
    (fun os started H enc _ F => s_lifted os started H enc F)

end Go.Proofs.Ytjmcnobglookpaa
