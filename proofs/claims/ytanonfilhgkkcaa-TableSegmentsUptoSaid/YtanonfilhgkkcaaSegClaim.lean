/- TableSegments: segments ahead of being dropped and behind it: the law's row, proved by evaluation. Conditions: those of the given row: what comes in is of bulk at most 1048576. -/
import Derived.Test.YtanonfilhgkkcaaRows
import Derived.Test.YtanonfilhgkkcaaReads
import Derived.Test.YtanonfilhgkkcaaSegLaw
import Derived.OpenShut
import Derived.JoinedCond
namespace Go.Proofs.Ytanonfilhgkkcaa
open Go.ChangeShapes Go.WideShapes Go.ChangeAt Go.RowKit

theorem Try.own : ownKnob Try.prog.godebug = none := by kernel_rfl
theorem Try.laidOut : laidOutB Try.prog = true := by kernel_rfl

namespace Sh
theorem bulk_one {H : Type} (d : DataW H) : 1 ≤ Rows.uptoBulk d := by
  cases d with
  | lit l => cases l <;> simp [Rows.uptoBulk]
  | nil => simp [Rows.uptoBulk]
  | ptr d => simp [Rows.uptoBulk]
  | slice elems spare => simp [Rows.uptoBulk]
  | agg parts => simp [Rows.uptoBulk]
  | iface t d => simp [Rows.uptoBulk]
  | map entries => simp [Rows.uptoBulk]
  | held h => simp [Rows.uptoBulk]

theorem bulk_part {H : Type} {d : DataW H} {l : List (DataW H)} (h : d ∈ l) : Rows.uptoBulk d ≤ Rows.uptoBulkAll l := by
  induction l with
  | nil => cases h
  | cons x r ih =>
    simp only [Rows.uptoBulkAll]
    cases List.mem_cons.1 h with
    | inl e => subst e; omega
    | inr e => have := ih e; omega

theorem bulk_len {H : Type} (l : List (DataW H)) : l.length ≤ Rows.uptoBulkAll l := by
  induction l with
  | nil => simp [Rows.uptoBulkAll]
  | cons x r ih => have := bulk_one x; simp only [Rows.uptoBulkAll, List.length_cons]; omega

theorem bulk_small {H : Type} : Small (Hd := H) 1048576 fun d => Rows.uptoBulk d ≤ 1048576 where
  sl {es sp} h _ := by
    simp only [Rows.uptoBulk] at h
    have := bulk_len es
    exact ⟨by omega, fun e he => by have := bulk_part he; omega⟩
  agg {ps} h p hp := by
    simp only [Rows.uptoBulk] at h
    have := bulk_part hp
    omega
  str {s} h _ := by
    simp only [Rows.uptoBulk, Array.length_toList] at h
    exact Nat.le_trans (Nat.le_succ _) h
end Sh

set_option maxRecDepth 100000 in
theorem s_lifted (os : Os) (started : os.Started) (H : Type) (enc : TypeId × Value → H) (F : Stop.Interp) :
    ReturnsInHanded {} Try.checked os 4 .any ((Rows.OpenSpec.upto Rows.tableSegmentsSpec).pre6 enc Try.prog Try.f4 Rows.tableSegmentsUptoRow.domain false) (((Rows.OpenSpec.upto Rows.tableSegmentsSpec).at F).post enc Try.prog Try.f4 false true false false) := by
  refine returnsInHanded_of_cond (C := Try.checked) (s := Rows.OpenSpec.upto Rows.tableSegmentsSpec) (k := Rows.uptoSmall) rfl Try.own started (by kernel_rfl) Try.func4
    (OpenSpec.witness (enc := enc) (C := Try.checked) (s := Rows.OpenSpec.upto Rows.tableSegmentsSpec) (k := Rows.uptoSmall) rfl false ⟨#[], #[.slice none 0 0, .slice none 0 0, .slice none 0 0], []⟩ 8 (by kernel_rfl) (by kernel_rfl) (by kernel_rfl)
      (x := ([.nil, .nil, .nil], [], [])) (by kernel_rfl) rfl (by kernel_rfl)) ?_
  intro W base args ds gs before hval0 hW _ hk _
  have hval : ∀ (j : Nat) t v, Try.f4.params[j]? = some t → args[j]? = some v → Value.okWide Try.prog W .any base t v := hval0
  have hW' := hW
  obtain ⟨p, q, hA0, hV, rfl, hfz, hnd⟩ := hW
  have hA : DataW.TrodAll enc Try.prog W 0 (fun _ => true) true Try.f4.params.toList args.toList ds p := hA0
  rw [Try.params4] at hA hval
  obtain ⟨rfl, rfl⟩ := trodVars_none hV
  have hbulk : ∀ d ∈ ds, Rows.uptoBulk d ≤ 1048576 := fun d hd => by
    have h1 : Rows.uptoBulkAll (ds ++ []) ≤ 1048576 := of_decide_eq_true hk
    rw [List.append_nil] at h1
    have := Sh.bulk_part hd
    omega
  obtain ⟨v0, r0, d0, e0, p0, q0, hl0, rfl, rfl, h0, hA⟩ := trodAll_cons hA
  obtain ⟨v1, r1, d1, e1, p1, q1, rfl, rfl, rfl, h1, hA⟩ := trodAll_cons hA
  obtain ⟨v2, r2, d2, e2, p2, q2, rfl, rfl, rfl, h2, hA⟩ := trodAll_cons hA
  obtain ⟨rfl, rfl, rfl⟩ := trodAll_nil hA
  obtain rfl : args = #[v0, v1, v2] := by rw [← Array.toArray_toList (xs := args), hl0]
  obtain ⟨l, hll, _, hvl⟩ := Sh.arg_slice Sh.ok (Sh.RT 1048576) Sh.bulk_small (k := .value) Try.underlying45 (by kernel_rfl) (hval 0 _ v0 rfl rfl) h0 (hbulk _ (by simp))
  obtain ⟨b, hlb, _, hvb⟩ := Sh.arg_slice Sh.ok (Sh.RT 1048576) Sh.bulk_small (k := .u8) Try.underlying46 (by kernel_rfl) (hval 1 _ v1 rfl rfl) h1 (hbulk _ (by simp))
  obtain ⟨r, hlr, _, hvr⟩ := Sh.arg_slice Sh.ok (Sh.RT 1048576) Sh.bulk_small (k := .ref) Try.underlying39 (by kernel_rfl) (hval 2 _ v2 rfl rfl) h2 (hbulk _ (by simp))
  refine (Sh.calls_true ((Sh.c_segs l b r hll hlb hlr).mono fun r H' h => h.1) trivial (fun b hb => by cases hb) rfl fun j u hj => ?_).mono fun e W' ⟨he, hw⟩ => ?_
  · match j, hj with
    | 0, hj => cases hj; exact ⟨_, rfl, hvl⟩
    | 1, hj => cases hj; exact ⟨_, rfl, hvb⟩
    | 2, hj => cases hj; exact ⟨_, rfl, hvr⟩
  · subst he
    exact ⟨_, rfl, Sh.post_true Try.laidOut (by kernel_rfl) rfl rfl Try.underlying4 hW' rfl hw⟩

theorem tableSegments_holds : Rows.TableSegmentsUptoSaid :=
  OpenClaim.holds_of_cond 4 Try.f4 rfl rfl rfl rfl rfl rfl rfl ⟨rfl, rfl, rfl, rfl, rfl⟩ rfl rfl rfl rfl rfl (by kernel_rfl) Try.func4 (by kernel_rfl)
    (of_decide_eq_true (by kernel_rfl)) (by unfold Func.isWrapper; first | (rw [if_pos (by decide +kernel)]; kernel_rfl) | (rw [if_neg (by decide +kernel)]; exact ⟨rfl, rfl⟩))
    (fun os started H enc _ F => s_lifted os started H enc F)

end Go.Proofs.Ytanonfilhgkkcaa
