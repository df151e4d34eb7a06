/- InumUnary: the law's row and its tied card, proved by evaluation. Conditions: those of the given row. -/
import Derived.Test.YtoegodeglgeomaaDoorRows
import Derived.Test.YtoegodeglgeomaaDoorCards
import Derived.Test.YtoegodeglgeomaaDoorTie
import Derived.LaidMore
import Derived.OpenShut
import Derived.LaidSub
import Derived.Stop.Joined
import Derived.Test.YtoegodeglgeomaaDoorUnC
namespace Go.Proofs.YtoegodeglgeomaaDoor
open Go.ChangeShapes Go.WideShapes Go.ChangeAt Go.RowKit

theorem Tryd.own : ownKnob Tryd.prog.godebug = none := by kernel_rfl
theorem Tryd.laidOut : laidOutB Tryd.prog = true := by kernel_rfl

theorem door_met (os : Os) (args : Array Value) : laidMetH Tryd.prog Rows.inumUnaryRow.laid ((World.doorLaid Tryd.prog 4000 os).forCall (fun _ _ => 0) ⟨#[], args, []⟩).memory :=
  laidMetH_of_parts3 (fuel := 8) (laidMet_of_run' 8 (by kernel_rfl) (by kernel_rfl)) (by kernel_rfl) (by kernel_rfl)

theorem tab_in {W : World} (h : laidMetH Tryd.prog Rows.inumUnaryRow.laid W) : Sh.S.inv W := by
  refine ⟨?_, ?_, ?_⟩
  · have h1 := h.filter (fun x => x.1 == "strings.asciiSpace")
    rw [show (Rows.inumUnaryRow.laid).filter (fun x => x.1 == "strings.asciiSpace") = [("strings.asciiSpace", Lib.tabData .u8 Lib.asciiSpaceTab)] by kernel_rfl] at h1
    have h2 : laidMet Tryd.prog [("strings.asciiSpace", Lib.tabData .u8 Lib.asciiSpaceTab)] W := h1
    exact Lib.tabIs_of_head (g := 0) (t := 76) (e := 5) (n := 256) (by kernel_rfl) (by kernel_rfl) Tryd.underlying76 Tryd.underlying5 (by kernel_rfl) (by kernel_rfl) h2
  · have h1 := h.filter (fun x => x.1 == "math/bits.deBruijn64tab")
    rw [show (Rows.inumUnaryRow.laid).filter (fun x => x.1 == "math/bits.deBruijn64tab") = [("math/bits.deBruijn64tab", Lib.tabData .u8 Sh.db64)] by kernel_rfl] at h1
    have h2 : laidMet Tryd.prog [("math/bits.deBruijn64tab", Lib.tabData .u8 Sh.db64)] W := h1
    exact Lib.tabIs_of_head (g := 1) (t := 79) (e := 5) (n := 64) (by kernel_rfl) (by kernel_rfl) Tryd.underlying79 Tryd.underlying5 (by kernel_rfl) (by kernel_rfl) h2
  · have h1 := h.filter (fun x => x.1 == "math/bits.deBruijn32tab")
    rw [show (Rows.inumUnaryRow.laid).filter (fun x => x.1 == "math/bits.deBruijn32tab") = [("math/bits.deBruijn32tab", Lib.tabData .u8 Sh.db32)] by kernel_rfl] at h1
    have h2 : laidMet Tryd.prog [("math/bits.deBruijn32tab", Lib.tabData .u8 Sh.db32)] W := h1
    exact Lib.tabIs_of_head (g := 2) (t := 80) (e := 5) (n := 32) (by kernel_rfl) (by kernel_rfl) Tryd.underlying80 Tryd.underlying5 (by kernel_rfl) (by kernel_rfl) h2

theorem blk_lt {W : World} {nm : String} {g : Nat} {zs : List Int} (hg : Tryd.prog.globalNamed nm = some g) (h : Lib.TabIs Tryd.prog W nm .u8 zs) : g < W.heap.size := by
  simp only [Lib.TabIs, World.var?, hg, Option.bind_some] at h
  split at h
  · rename_i hh; exact (Array.getElem?_eq_some_iff.1 hh).1
  · cases h

theorem glb_lt {W : World} (h : Sh.S.inv W) : ∀ b ∈ Sh.S.glb, b < W.heap.size := by
  intro b hb
  have hb' : b = 0 ∨ b = 1 ∨ b = 2 := by simpa [Sh.S] using hb
  rcases hb' with rfl | rfl | rfl
  · exact blk_lt (by kernel_rfl) h.1
  · exact blk_lt (by kernel_rfl) h.2.1
  · exact blk_lt (by kernel_rfl) h.2.2

set_option maxRecDepth 100000 in
theorem z_lifted (os : Os) (started : os.Started) (H : Type) (enc : TypeId × Value → H) :
    ReturnsInHanded {} Tryd.checked os 8 .any (fun w args => (Rows.inumUnarySpec.pre enc Tryd.prog Tryd.f8 [] false w args ∧ laidMetH Tryd.prog Rows.inumUnaryRow.laid w) ∧ sizedMet enc Tryd.prog Tryd.f8 (OpenSpec.ofChange Rows.inumUnarySpec) false w args)
      (Rows.inumUnarySpec.post enc Tryd.prog Tryd.f8 false true false false) := by
  refine returnsInHanded_of_change_and (C := Tryd.checked) (X := fun w _ => laidMetH Tryd.prog Rows.inumUnaryRow.laid w) (fun _ _ _ hh h => h.of_heap hh) Tryd.own started (by kernel_rfl) Tryd.func8
    (ChangeSpec.witness_shaped (enc := enc) (C := Tryd.checked) (os := os) (X := fun w _ => laidMetH Tryd.prog Rows.inumUnaryRow.laid w) false (World.doorLaid Tryd.prog 4000 os) #[.int .i64 0, .int .u64 0] 8 rfl (World.shaped_of_RefB (by kernel_rfl) (by kernel_rfl)) (by kernel_rfl) (by kernel_rfl) (by kernel_rfl) (door_met os _)) ?_
  intro W base args ds gs before hval0 hW _ _ hL _
  have hval : ∀ (j : Nat) t v, Tryd.f8.params[j]? = some t → args[j]? = some v → Value.okWide Tryd.prog W .any base t v := hval0
  have hW' := hW
  obtain ⟨p, q, hA0, hV, rfl, hfz, hnd⟩ := hW
  have hA : DataW.TrodAll enc Tryd.prog W 0 (fun _ => true) true Tryd.f8.params.toList args.toList ds p := hA0
  rw [Tryd.params8] at hA hval
  obtain ⟨rfl, rfl⟩ := trodVars_none hV
  obtain ⟨v0, r0, d0, e0, p0, q0, hl0, rfl, rfl, h0, hA⟩ := trodAll_cons hA
  obtain ⟨v1, r1, d1, e1, p1, q1, rfl, rfl, rfl, h1, hA⟩ := trodAll_cons hA
  obtain ⟨rfl, rfl, rfl⟩ := trodAll_nil hA
  obtain rfl : args = #[v0, v1] := by rw [← Array.toArray_toList (xs := args), hl0]
  obtain ⟨a0, rfl, rfl, rfl, w0⟩ := open_int Tryd.underlying3 (hval 0 3 v0 rfl rfl) h0
  have w0 := Sh.lit_wf_int w0
  obtain ⟨a1, rfl, rfl, rfl, w1⟩ := open_int Tryd.underlying26 (hval 1 26 v1 rfl rfl) h1
  have w1 := Sh.lit_wf_int w1
  have hT := tab_in hL
  refine (Sh.calls_true ((Sh.c_inumUnary a0 a1 w1).mono fun r H' h => h.1) hT (glb_lt hT) rfl fun j u hj => ?_).mono fun e W' ⟨he, hw⟩ => ?_
  · match j, hj with
    | 0, hj => cases hj; exact ⟨_, rfl, Sh.VR.int _ _⟩
    | 1, hj => cases hj; exact ⟨_, rfl, Sh.VR.int _ _⟩
  · subst he
    exact ⟨_, rfl, Sh.post_true Tryd.laidOut (by kernel_rfl) rfl rfl Tryd.underlying4 hW' rfl hw⟩

theorem inumUnary_holds : Rows.InumUnarySaid :=
  OpenClaim.holds_of_wide 8 Tryd.f8 rfl rfl rfl rfl rfl rfl rfl ⟨rfl, rfl, rfl, rfl, rfl⟩ rfl rfl rfl rfl rfl (by kernel_rfl) Tryd.func8 (by kernel_rfl)
    (of_decide_eq_true (by kernel_rfl)) (by unfold Func.isWrapper; first | (rw [if_pos (by decide +kernel)]; kernel_rfl) | (rw [if_neg (by decide +kernel)]; exact ⟨rfl, rfl⟩))
    (fun os started H enc _ => z_lifted os started H enc)

theorem inumUnary_card : Rows.InumUnaryCardSaid :=
  Claim7.holds_tied_plain_at .later [] [.data, .data, .listed, .data] true (true, "e7014158aaeb268ba1d52382904807baee33985fc7c020ed9b3ffb906d0b686b") false
    inumUnary_holds (fun _ h => by cases h) (by kernel_rfl) (fun _ h => by cases h) inumUnary_row_tie rfl ⟨rfl, rfl⟩ (by kernel_rfl) rfl
    (fun f fn hf hfn => by
      obtain rfl : f = 8 := Option.some.inj ((show Tryd.prog.funcNamed Rows.inumUnaryRow.func = some 8 by kernel_rfl).symm.trans hf) |>.symm
      obtain rfl : fn = Tryd.f8 := (Option.some.inj (Tryd.func8.symm.trans hfn)).symm
      exact ⟨by kernel_rfl, fun j t ht => by
        rw [Tryd.params8] at ht
        rcases j with _ | _ | j
        · obtain rfl : t = 3 := by simpa using ht.symm
          exact (show Tryd.prog.wantsStandIn 3 = false by kernel_rfl)
        · obtain rfl : t = 26 := by simpa using ht.symm
          exact (show Tryd.prog.wantsStandIn 26 = false by kernel_rfl)
        · simp at ht⟩)
    (by kernel_rfl)

end Go.Proofs.YtoegodeglgeomaaDoor
