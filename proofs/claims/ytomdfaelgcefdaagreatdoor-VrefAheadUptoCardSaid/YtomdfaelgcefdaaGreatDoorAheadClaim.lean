/- VrefAhead: the law's row and its tied card (second form), proved by evaluation. Conditions: those of the given row: what comes in is of bulk at most 1048576. -/
import Derived.Test.YtomdfaelgcefdaaGreatDoorRows
import Derived.Test.YtomdfaelgcefdaaGreatDoorCards
import Derived.Test.YtomdfaelgcefdaaGreatDoorTie
import Derived.LaidMore
import Derived.OpenShut
import Derived.LaidSub
import Derived.Stop.Joined
import Derived.JoinedCond
import Derived.Deep.DeepHandedRow
import Derived.Test.YtomdfaelgcefdaaGreatDoorGbe
set_option maxRecDepth 100000
set_option maxHeartbeats 64000000
namespace Go.Proofs.YtomdfaelgcefdaaGreatDoor
open Go.ChangeShapes Go.WideShapes Go.ChangeAt Go.RowKit
theorem Tryz.own : ownKnob Tryz.prog.godebug = none := by kernel_rfl
theorem Tryz.laidOut : laidOutB Tryz.prog = true := by kernel_rfl
theorem door_met (os : Os) (args : Array Value) : laidMetH Tryz.prog Rows.vrefAheadUptoRow.laid ((World.doorLaid Tryz.prog 4000 os).forCall (fun _ _ => 0) ⟨#[],args,[]⟩).memory :=
 laidMetH_of_parts3 (fuel := 8) (laidMet_of_run' 8 (by kernel_rfl) (by kernel_rfl)) (by kernel_rfl) (by kernel_rfl)
theorem tab_in {W : World} (h : laidMetH Tryz.prog Rows.vrefAheadUptoRow.laid W) : Lib.TabIs Tryz.prog W "internal/strconv.uint64pow10" .u64 Lib.pow10Tab := by
 have h1 := h.filter (fun x => x.1 == "internal/strconv.uint64pow10");rw [show (Rows.vrefAheadUptoRow.laid).filter (fun x => x.1 == "internal/strconv.uint64pow10") = [("internal/strconv.uint64pow10",Lib.tabData .u64 Lib.pow10Tab)] by kernel_rfl] at h1;have h2 : laidMet Tryz.prog [("internal/strconv.uint64pow10",Lib.tabData .u64 Lib.pow10Tab)] W := h1;exact Lib.tabIs_of_head (g := 3) (t := 333) (e := 63) (n := 20) (by kernel_rfl) (by kernel_rfl) Tryz.underlying333 Tryz.underlying63 (by kernel_rfl) (by kernel_rfl) h2
theorem glb_lt {W : World} (h : Lib.TabIs Tryz.prog W "internal/strconv.uint64pow10" .u64 Lib.pow10Tab) : ∀ b ∈ Sh.S.glb,b < W.heap.size := by
 intro b hb;obtain rfl : b = 3 := by simpa [Sh.S] using hb
 have hg : Tryz.prog.globalNamed "internal/strconv.uint64pow10" = some 3 := by kernel_rfl
 simp only [Lib.TabIs,World.var?,hg,Option.bind_some] at h;split at h
 · rename_i hh; exact (Array.getElem?_eq_some_iff.1 hh).1
 · cases h
theorem z_lifted (os : Os) (started : os.Started) (H : Type) (enc : TypeId × Value → H) (F : Stop.Interp) :
    ReturnsInHanded {} Tryz.checked os 5 .any ((Rows.OpenSpec.upto Rows.vrefAheadSpec).preRow enc Tryz.prog Tryz.f5 Rows.vrefAheadUptoRow.domain false Rows.vrefAheadUptoRow.laid) (((Rows.OpenSpec.upto Rows.vrefAheadSpec).at F).post enc Tryz.prog Tryz.f5 false true false false) := by
 have hx : ∃ places,DataW.whole enc Tryz.prog ((World.doorLaid Tryz.prog 4000 os).forCall (fun _ _ => 0) ⟨#[],#[.agg #[.slice none 0 0,.slice none 0 0,.slice none 0 0,.slice none 0 0,.slice none 0 0,.slice none 0 0,.slice none 0 0,.int .i64 0,.slice none 0 0,.slice none 0 0,.slice none 0 0,.slice none 0 0,.slice none 0 0,.slice none 0 0,.bool false],.agg #[.int .i64 0,.int .u32 0,.int .u32 0,.int .u64 0,.int .u32 0,.int .u32 0,.int .u64 0,.int .i64 0,.int .i64 0,.bool false,.int .i64 0,.slice none 0 0,.slice none 0 0,.bool false,.slice none 0 0,.slice none 0 0,.slice none 0 0],.slice none 0 0],[]⟩).memory Tryz.f5.params.toList Rows.vrefAheadSpec.vars false (#[.agg #[.slice none 0 0,.slice none 0 0,.slice none 0 0,.slice none 0 0,.slice none 0 0,.slice none 0 0,.slice none 0 0,.int .i64 0,.slice none 0 0,.slice none 0 0,.slice none 0 0,.slice none 0 0,.slice none 0 0,.slice none 0 0,.bool false],.agg #[.int .i64 0,.int .u32 0,.int .u32 0,.int .u64 0,.int .u32 0,.int .u32 0,.int .u64 0,.int .i64 0,.int .i64 0,.bool false,.int .i64 0,.slice none 0 0,.slice none 0 0,.bool false,.slice none 0 0,.slice none 0 0,.slice none 0 0],.slice none 0 0] : Array Value).toList 8 = some ([.agg [.agg [.nil,.nil,.nil,.nil,.nil,.nil,.nil,.lit (.int .i64 0),.nil],.nil,.nil,.nil,.nil,.nil,.lit (.bool false)],.agg [.lit (.int .i64 0),.lit (.int .u32 0),.lit (.int .u32 0),.lit (.int .u64 0),.agg [.lit (.int .u32 0),.lit (.int .u32 0),.lit (.int .u64 0)],.agg [.lit (.int .i64 0),.agg [.lit (.int .i64 0),.lit (.bool false),.lit (.int .i64 0)]],.nil,.nil,.lit (.bool false),.nil,.nil,.nil],.nil],[],places) := ⟨[],by kernel_rfl⟩;obtain ⟨places,hx⟩ := hx
 refine returnsInHanded_of_row (C := Tryz.checked) (s := Rows.OpenSpec.upto Rows.vrefAheadSpec) Tryz.own started (by kernel_rfl) Tryz.func5
  (witness_row_at (enc := enc) (C := Tryz.checked) false (World.doorLaid Tryz.prog 4000 os) #[.agg #[.slice none 0 0,.slice none 0 0,.slice none 0 0,.slice none 0 0,.slice none 0 0,.slice none 0 0,.slice none 0 0,.int .i64 0,.slice none 0 0,.slice none 0 0,.slice none 0 0,.slice none 0 0,.slice none 0 0,.slice none 0 0,.bool false],.agg #[.int .i64 0,.int .u32 0,.int .u32 0,.int .u64 0,.int .u32 0,.int .u32 0,.int .u64 0,.int .i64 0,.int .i64 0,.bool false,.int .i64 0,.slice none 0 0,.slice none 0 0,.bool false,.slice none 0 0,.slice none 0 0,.slice none 0 0],.slice none 0 0] rfl (by kernel_rfl) (by kernel_rfl) (by kernel_rfl)
   (OpenSpec.preRow_of_cond 8 hx (by kernel_rfl) (fun k hk => by cases hk; kernel_rfl) (by kernel_rfl) (door_met os _))) ?_
 intro W base args ds gs before hval0 hW _ hk _ hL _ _;have hval : ∀ (j : Nat) t v,Tryz.f5.params[j]? = some t → args[j]? = some v → Value.okWide Tryz.prog W .any base t v := hval0;have hW' := hW;obtain ⟨p,q,hA0,hV,rfl,hfz,hnd⟩ := hW;have hA : DataW.TrodAll enc Tryz.prog W 0 (fun _ => true) true Tryz.f5.params.toList args.toList ds p := hA0;rw [Tryz.params5] at hA hval;obtain ⟨rfl,rfl⟩ := trodVars_none hV
 have hbulk : ∀ d ∈ ds,Rows.uptoBulk d ≤ 1048576 := fun d hd => by
  have h1 : Rows.uptoBulkAll (ds ++ []) ≤ 1048576 := of_decide_eq_true (hk _ rfl);rw [List.append_nil] at h1;have := Sh.bulk_part hd;omega
 obtain ⟨v0,r0,d0,e0,p0,q0,hl0,rfl,rfl,h0,hA⟩ := trodAll_cons hA;obtain ⟨v1,r1,d1,e1,p1,q1,rfl,rfl,rfl,h1,hA⟩ := trodAll_cons hA;obtain ⟨v2,r2,d2,e2,p2,q2,rfl,rfl,rfl,h2,hA⟩ := trodAll_cons hA;obtain ⟨rfl,rfl,rfl⟩ := trodAll_nil hA;obtain rfl : args = #[v0,v1,v2] := by rw [← Array.toArray_toList (xs := args),hl0]
 obtain ⟨us0,hu0,hv0⟩ := Sh.arg_agg Sh.ok (Sh.RT 1048576) Sh.bulk_small (m := 20) Tryz.underlying62 (by kernel_rfl) (hval 0 _ v0 rfl rfl) h0 (hbulk _ (by simp));obtain ⟨x0,hle0,G0⟩ := Sh.Ck.typed_where hu0;have hv0 := Sh.Ck.VR2_le hle0 hv0;obtain ⟨us1,hu1,hv1⟩ := Sh.arg_agg Sh.ok (Sh.RT 1048576) Sh.bulk_small (m := 20) Tryz.underlying72 (by kernel_rfl) (hval 1 _ v1 rfl rfl) h1 (hbulk _ (by simp));obtain ⟨x1,hle1,G1⟩ := Sh.Ck.typed_instr hu1;have hv1 := Sh.Ck.VR2_le hle1 hv1;obtain ⟨x2,G2,hg2,hv2⟩ := Sh.arg_slice Sh.ok (Sh.RT 1048576) Sh.bulk_small (k := .vt) Tryz.underlying23 (by kernel_rfl) (hval 2 _ v2 rfl rfl) h2 (hbulk _ (by simp));have hT := tab_in hL;refine (Sh.calls_true ((Sh.Ck.c_VrefAhead x0 G0.1 G0.2 x1 G1 x2 G2).mono fun r H' h => h.1) hT (glb_lt hT) rfl fun j u hj => ?_).mono fun e W' ⟨he,hw⟩ => ?_
 · match j,hj with
   | 0,hj => cases hj; exact ⟨_,rfl,hv0⟩
   | 1,hj => cases hj; exact ⟨_,rfl,hv1⟩
   | 2,hj => cases hj; exact ⟨_,rfl,hv2⟩
 · subst he;exact ⟨_,rfl,Sh.post_true Tryz.laidOut (by kernel_rfl) rfl rfl Tryz.underlying4 hW' rfl hw⟩
theorem closedFacts : joinedFacts Tryz.prog 5 Tryz.f5 (Rows.OpenSpec.upto Rows.vrefAheadSpec).bare Rows.vrefAheadUptoRow = true := by
 unfold joinedFacts;repeat' (with_reducible refine (Bool.and_eq_true _ _).mpr ⟨?_,?_⟩)
 all_goals as_aux_lemma => kernel_rfl
theorem vrefAhead_holds : Rows.VrefAheadUptoSaid :=
 OpenClaim.holds_of_cond 5 Tryz.f5 rfl rfl rfl rfl rfl rfl rfl ⟨rfl,rfl,rfl,rfl,rfl⟩ rfl rfl rfl rfl rfl (by kernel_rfl) Tryz.func5 closedFacts
  (of_decide_eq_true (by kernel_rfl)) (by unfold Func.isWrapper; first | (rw [if_pos (by decide +kernel)]; kernel_rfl) | (rw [if_neg (by decide +kernel)]; exact ⟨rfl,rfl⟩))
  (fun os started H enc _ F => by rw [OpenClaim.pre_eq_preRow]; exact z_lifted os started H enc F)
theorem vrefAhead_card : Rows.VrefAheadUptoCardSaid :=
 Claim7.holds_tied_plain_at .later [] _ _ _ _ vrefAhead_holds (fun _ h => by cases h) (by kernel_rfl) (fun _ h => by cases h) vrefAheadUpto_row_tie rfl ⟨rfl,rfl⟩ (by kernel_rfl) rfl
  (fun f fn hf hfn => by
   obtain rfl : f = 5 := Option.some.inj ((show Tryz.prog.funcNamed Rows.vrefAheadUptoRow.func = some 5 by kernel_rfl).symm.trans hf) |>.symm
   obtain rfl : fn = Tryz.f5 := (Option.some.inj (Tryz.func5.symm.trans hfn)).symm;refine ⟨by kernel_rfl,fun j t ht => ?_⟩;rw [Tryz.params5] at ht;have h1 := Array.mem_of_getElem? ht;have hall : (#[62,72,23] : Array TypeId).toList.all (fun t => !Tryz.prog.wantsStandIn t) = true := by kernel_rfl
   have h2 := List.all_eq_true.1 hall t (by simpa using h1)
   exact (by simpa using h2 : Tryz.prog.wantsStandIn t = false))
  (by kernel_rfl)
end Go.Proofs.YtomdfaelgcefdaaGreatDoor
