/- StackBlocks: the law's row and its tied card (second form), proved by evaluation. Conditions: those of the given row: what comes in is of bulk at most 1048576. -/
import Derived.Test.YtlnloekadohddaaDoorRows
import Derived.Test.YtlnloekadohddaaDoorCards
import Derived.Test.YtlnloekadohddaaDoorTie
import Derived.Test.YtlnloekadohddaaDoorReads
import Derived.LaidMore
import Derived.OpenShut
import Derived.LaidSub
import Derived.Stop.Joined
import Derived.JoinedCond
import Derived.Deep.DeepHandedRow
import Derived.Test.YtlnloekadohddaaDoorSkL
namespace Go.Proofs.YtlnloekadohddaaDoor
open Go.ChangeShapes Go.WideShapes Go.ChangeAt Go.RowKit

theorem Tryd.own : ownKnob Tryd.prog.godebug = none := by kernel_rfl
theorem Tryd.laidOut : laidOutB Tryd.prog = true := by kernel_rfl

theorem door_met (os : Os) (args : Array Value) : laidMetH Tryd.prog Rows.stackBlocksUptoRow.laid ((World.doorLaid Tryd.prog 4000 os).forCall (fun _ _ => 0) ⟨#[], args, []⟩).memory :=
  laidMetH_of_parts3 (fuel := 8) (laidMet_of_run' 8 (by kernel_rfl) (by kernel_rfl)) (by kernel_rfl) (by kernel_rfl)

namespace Sh
theorem bulk_one {H : Type} (d : DataW H) : 1 ≤ Rows.uptoBulk d := by
  cases d with
  | lit l => cases l <;> simp [Rows.uptoBulk]
  | nil => simp [Rows.uptoBulk]
  | ptr d => simp [Rows.uptoBulk]
  | slice elems spare => simp [Rows.uptoBulk]
  | agg parts => simp [Rows.uptoBulk]
  | iface t d => simp [Rows.uptoBulk]
  | map entries => simp [Rows.uptoBulk]
  | held h => simp [Rows.uptoBulk]

theorem bulk_part {H : Type} {d : DataW H} {l : List (DataW H)} (h : d ∈ l) : Rows.uptoBulk d ≤ Rows.uptoBulkAll l := by
  induction l with
  | nil => cases h
  | cons x r ih =>
    simp only [Rows.uptoBulkAll]
    cases List.mem_cons.1 h with
    | inl e => subst e; omega
    | inr e => have := ih e; omega

theorem bulk_len {H : Type} (l : List (DataW H)) : l.length ≤ Rows.uptoBulkAll l := by
  induction l with
  | nil => simp [Rows.uptoBulkAll]
  | cons x r ih => have := bulk_one x; simp only [Rows.uptoBulkAll, List.length_cons]; omega

theorem bulk_small {H : Type} : Small (Hd := H) 1048576 fun d => Rows.uptoBulk d ≤ 1048576 where
  sl {es sp} h _ := by
    simp only [Rows.uptoBulk] at h
    have := bulk_len es
    exact ⟨by omega, fun e he => by have := bulk_part he; omega⟩
  agg {ps} h p hp := by
    simp only [Rows.uptoBulk] at h
    have := bulk_part hp
    omega
  str {s} h _ := by
    simp only [Rows.uptoBulk, Array.length_toList] at h
    exact Nat.le_trans (Nat.le_succ _) h

theorem typed_start {us : List V} {N : Nat} {good : (k : KT) → ElT k → Prop} (h : Typed N good [.sl .grp, .sl .vt, .sl .vt, .sl .vt] us) : ∃ (l : List El_grp) (ps ls rs : List El_vt), us = [.imm .grp l, .imm .vt ps, .imm .vt ls, .imm .vt rs] ∧ l.length ≤ N ∧ (∀ g ∈ l, good .grp g) ∧ ps.length ≤ N ∧ ls.length ≤ N ∧ rs.length ≤ N := by
  obtain ⟨u0, us, rfl, h0, h⟩ := h.uncons
  obtain ⟨u1, us, rfl, h1, h⟩ := h.uncons
  obtain ⟨u2, us, rfl, h2, h⟩ := h.uncons
  obtain ⟨u3, us, rfl, h3, h⟩ := h.uncons
  obtain rfl := h.unnil
  obtain ⟨l, rfl, hl, hg⟩ := h0.sl
  obtain ⟨p, rfl, hp, _⟩ := h1.sl
  obtain ⟨q, rfl, hq, _⟩ := h2.sl
  obtain ⟨r, rfl, hr, _⟩ := h3.sl
  exact ⟨l, p, q, r, rfl, hl, hg, hp, hq, hr⟩
end Sh

set_option maxRecDepth 100000 in
theorem z_lifted (os : Os) (started : os.Started) (H : Type) (enc : TypeId × Value → H) (F : Stop.Interp) :
    ReturnsInHanded {} Tryd.checked os 4 .any ((Rows.OpenSpec.upto Rows.stackBlocksSpec).preRow enc Tryd.prog Tryd.f4 Rows.stackBlocksUptoRow.domain false Rows.stackBlocksUptoRow.laid) (((Rows.OpenSpec.upto Rows.stackBlocksSpec).at F).post enc Tryd.prog Tryd.f4 false true false false) := by
  have hx : ∃ places, DataW.whole enc Tryd.prog ((World.doorLaid Tryd.prog 4000 os).forCall (fun _ _ => 0) ⟨#[], #[.agg #[.slice none 0 0, .slice none 0 0, .slice none 0 0, .slice none 0 0], .slice none 0 0, .slice none 0 0], []⟩).memory Tryd.f4.params.toList Rows.stackBlocksSpec.vars false (#[.agg #[.slice none 0 0, .slice none 0 0, .slice none 0 0, .slice none 0 0], .slice none 0 0, .slice none 0 0] : Array Value).toList 8 = some ([.agg [.nil, .nil, .nil, .nil], .nil, .nil], [], places) := ⟨[], by kernel_rfl⟩
  obtain ⟨places, hx⟩ := hx
  refine returnsInHanded_of_row (C := Tryd.checked) (s := Rows.OpenSpec.upto Rows.stackBlocksSpec) Tryd.own started (by kernel_rfl) Tryd.func4
    (witness_row_at (enc := enc) (C := Tryd.checked) false (World.doorLaid Tryd.prog 4000 os) #[.agg #[.slice none 0 0, .slice none 0 0, .slice none 0 0, .slice none 0 0], .slice none 0 0, .slice none 0 0] rfl (by kernel_rfl) (by kernel_rfl) (by kernel_rfl)
      (OpenSpec.preRow_of_cond 8 hx (by kernel_rfl) (fun k hk => by cases hk; kernel_rfl) (by kernel_rfl) (door_met os _))) ?_
  intro W base args ds gs before hval0 hW _ hk _ hL _ _
  have hval : ∀ (j : Nat) t v, Tryd.f4.params[j]? = some t → args[j]? = some v → Value.okWide Tryd.prog W .any base t v := hval0
  have hW' := hW
  obtain ⟨p, q, hA0, hV, rfl, hfz, hnd⟩ := hW
  have hA : DataW.TrodAll enc Tryd.prog W 0 (fun _ => true) true Tryd.f4.params.toList args.toList ds p := hA0
  rw [Tryd.params4] at hA hval
  obtain ⟨rfl, rfl⟩ := trodVars_none hV
  have hbulk : ∀ d ∈ ds, Rows.uptoBulk d ≤ 1048576 := fun d hd => by
    have h1 : Rows.uptoBulkAll (ds ++ []) ≤ 1048576 := of_decide_eq_true (hk _ rfl)
    rw [List.append_nil] at h1
    have := Sh.bulk_part hd
    omega
  obtain ⟨v0, r0, d0, e0, p0, q0, hl0, rfl, rfl, h0, hA⟩ := trodAll_cons hA
  obtain ⟨v1, r1, d1, e1, p1, q1, rfl, rfl, rfl, h1, hA⟩ := trodAll_cons hA
  obtain ⟨v2, r2, d2, e2, p2, q2, rfl, rfl, rfl, h2, hA⟩ := trodAll_cons hA
  obtain ⟨rfl, rfl, rfl⟩ := trodAll_nil hA
  obtain rfl : args = #[v0, v1, v2] := by rw [← Array.toArray_toList (xs := args), hl0]
  obtain ⟨us, hus, hv0⟩ := Sh.arg_agg Sh.ok (Sh.RT 1048576) Sh.bulk_small (m := 20) Tryd.underlying25 (by kernel_rfl) (hval 0 _ v0 rfl rfl) h0 (hbulk _ (by simp))
  obtain ⟨l, ps, ls, rs, rfl, hl, hg, hp, hls, hr⟩ := Sh.typed_start hus
  obtain ⟨a1, hl1, hg1, hv1⟩ := Sh.arg_slice Sh.ok (Sh.RT 1048576) Sh.bulk_small (k := .vt) Tryd.underlying23 (by kernel_rfl) (hval 1 _ v1 rfl rfl) h1 (hbulk _ (by simp))
  obtain ⟨a2, hl2, hg2, hv2⟩ := Sh.arg_slice Sh.ok (Sh.RT 1048576) Sh.bulk_small (k := .u32) Tryd.underlying41 (by kernel_rfl) (hval 2 _ v2 rfl rfl) h2 (hbulk _ (by simp))
  refine (Sh.calls_true ((Sh.c_blocks l ps ls rs a1 a2 hl hg hp hls hr hl1 hl2 hg2).mono fun r H' h => h.1) trivial (fun b hb => by cases hb) rfl fun j u hj => ?_).mono fun e W' ⟨he, hw⟩ => ?_
  · match j, hj with
    | 0, hj => cases hj; exact ⟨_, rfl, hv0⟩
    | 1, hj => cases hj; exact ⟨_, rfl, hv1⟩
    | 2, hj => cases hj; exact ⟨_, rfl, hv2⟩
  · subst he
    exact ⟨_, rfl, Sh.post_true Tryd.laidOut (by kernel_rfl) rfl rfl Tryd.underlying4 hW' rfl hw⟩

theorem stackBlocks_holds : Rows.StackBlocksUptoSaid :=
  OpenClaim.holds_of_cond 4 Tryd.f4 rfl rfl rfl rfl rfl rfl rfl ⟨rfl, rfl, rfl, rfl, rfl⟩ rfl rfl rfl rfl rfl (by kernel_rfl) Tryd.func4 (by kernel_rfl)
    (of_decide_eq_true (by kernel_rfl)) (by unfold Func.isWrapper; first | (rw [if_pos (by decide +kernel)]; kernel_rfl) | (rw [if_neg (by decide +kernel)]; exact ⟨rfl, rfl⟩))
    (fun os started H enc _ F => by rw [OpenClaim.pre_eq_preRow]; exact z_lifted os started H enc F)

theorem stackBlocks_card : Rows.StackBlocksUptoCardSaid :=
  Claim7.holds_tied_plain_at .later [] _ _ _ _ stackBlocks_holds (fun _ h => by cases h) (by kernel_rfl) (fun _ h => by cases h) stackBlocksUpto_row_tie rfl ⟨rfl, rfl⟩ (by kernel_rfl) rfl
    (fun f fn hf hfn => by
      obtain rfl : f = 4 := Option.some.inj ((show Tryd.prog.funcNamed Rows.stackBlocksUptoRow.func = some 4 by kernel_rfl).symm.trans hf) |>.symm
      obtain rfl : fn = Tryd.f4 := (Option.some.inj (Tryd.func4.symm.trans hfn)).symm
      refine ⟨by kernel_rfl, fun j t ht => ?_⟩
      rw [Tryd.params4] at ht
      have h1 := Array.mem_of_getElem? ht
      have hall : (#[25, 23, 41] : Array TypeId).toList.all (fun t => !Tryd.prog.wantsStandIn t) = true := by kernel_rfl
      have h2 := List.all_eq_true.1 hall t (by simpa using h1)
      exact (by simpa using h2 : Tryd.prog.wantsStandIn t = false))
    (by kernel_rfl)

end Go.Proofs.YtlnloekadohddaaDoor
