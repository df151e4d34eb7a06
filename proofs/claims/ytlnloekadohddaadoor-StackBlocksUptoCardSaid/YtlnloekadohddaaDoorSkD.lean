/- MADE BY PROGRAM (skdgen.py): what a checker's methods answer, part 2. -/
import Derived.Test.YtlnloekadohddaaDoorSkC
namespace Go.Proofs.YtlnloekadohddaaDoor
open Go
namespace Sh
def popsV (q : List El_vt) (j : Int) : List V := [.ptr 0 0, .imm .vt q, .ptr 6 0, .int .i64 j]
variable {l : List El_grp} {lo : List El_vt} {se : List Bool} {re : List El_vt} {op : List El_vt}

set_option maxRecDepth 100000 in
theorem c_Unr_WA (m : Nat) (o0 : Int) (h0 : Nat) (i0 : Option (List El_vt)) (u0 : List El_vt) (s0 : List Bool) (d0 : Bool) (hh : h0 ≤ m) : SpecD S 6 [.ptr 0 0] (ck l lo se re (.own .vt 4 0 m .whole) (.own .frame 5 0 1 .whole) op [(mkF o0 h0 i0 u0 s0 d0)]) (.int .i64 0) (ck l lo se re (.own .vt 4 0 h0 .full) (.own .frame 5 0 1 .whole) op [(mkF o0 h0 i0 u0 s0 true)]) := by
  refine specE ok sh6 rfl ?_
  conv => whnf
  refine call_of [0, 1, 2, 3, 4, 5] (c_shut_WA m) (by rfl) (by rfl) ?_
  conv => whnf
  refine call_of [0, 1, 2, 3, 4, 5] (c_top_WA m) (by rfl) (by rfl) ?_
  conv => whnf
  refine ⟨rfl, by simp, by decide, ?_⟩
  conv => whnf
  refine call_of [0, 1, 2, 3, 4, 5] (c_cutV_WA m h0 hh) (by rfl) (by rfl) ?_
  conv => whnf
  cases i0
  · refine ⟨rfl, by simp, (by decide : 5 + 1 ≤ 6), ?_⟩
    conv => whnf
    exact end_of [0, 1, 2, 3, 4, 5] (by rfl) (by rfl) (by rfl) (by exact ⟨rfl, rfl⟩)
  · refine ⟨rfl, by simp, (by decide : 5 + 1 ≤ 6), ?_⟩
    conv => whnf
    exact end_of [0, 1, 2, 3, 4, 5] (by rfl) (by rfl) (by rfl) (by exact ⟨rfl, rfl⟩)

set_option maxRecDepth 100000 in
theorem c_Unr_FB (m : Nat) (f0 : El_frame) (o1 : Int) (h1 : Nat) (i1 : Option (List El_vt)) (u1 : List El_vt) (s1 : List Bool) (d1 : Bool) (hh : h1 ≤ m) : SpecD S 6 [.ptr 0 0] (ck l lo se re (.own .vt 4 0 m .full) (.own .frame 5 0 2 .whole) op [f0, (mkF o1 h1 i1 u1 s1 d1)]) (.int .i64 0) (ck l lo se re (.own .vt 4 0 h1 .full) (.own .frame 5 0 2 .whole) op [f0, (mkF o1 h1 i1 u1 s1 true)]) := by
  refine specE ok sh6 rfl ?_
  conv => whnf
  refine call_of [0, 1, 2, 3, 4, 5] (c_shut_FB m) (by rfl) (by rfl) ?_
  conv => whnf
  refine call_of [0, 1, 2, 3, 4, 5] (c_top_FB m) (by rfl) (by rfl) ?_
  conv => whnf
  refine ⟨rfl, by simp, by decide, ?_⟩
  conv => whnf
  refine call_of [0, 1, 2, 3, 4, 5] (c_cutV_FB m h1 hh) (by rfl) (by rfl) ?_
  conv => whnf
  cases i1
  · refine ⟨rfl, by simp, (by decide : 5 + 1 ≤ 6), ?_⟩
    conv => whnf
    exact end_of [0, 1, 2, 3, 4, 5] (by rfl) (by rfl) (by rfl) (by exact ⟨rfl, rfl⟩)
  · refine ⟨rfl, by simp, (by decide : 5 + 1 ≤ 6), ?_⟩
    conv => whnf
    exact end_of [0, 1, 2, 3, 4, 5] (by rfl) (by rfl) (by rfl) (by exact ⟨rfl, rfl⟩)

set_option maxRecDepth 100000 in
theorem c_Unr_WB (m : Nat) (f0 : El_frame) (o1 : Int) (h1 : Nat) (i1 : Option (List El_vt)) (u1 : List El_vt) (s1 : List Bool) (d1 : Bool) (hh : h1 ≤ m) : SpecD S 6 [.ptr 0 0] (ck l lo se re (.own .vt 4 0 m .whole) (.own .frame 5 0 2 .whole) op [f0, (mkF o1 h1 i1 u1 s1 d1)]) (.int .i64 0) (ck l lo se re (.own .vt 4 0 h1 .full) (.own .frame 5 0 2 .whole) op [f0, (mkF o1 h1 i1 u1 s1 true)]) := by
  refine specE ok sh6 rfl ?_
  conv => whnf
  refine call_of [0, 1, 2, 3, 4, 5] (c_shut_WB m) (by rfl) (by rfl) ?_
  conv => whnf
  refine call_of [0, 1, 2, 3, 4, 5] (c_top_WB m) (by rfl) (by rfl) ?_
  conv => whnf
  refine ⟨rfl, by simp, by decide, ?_⟩
  conv => whnf
  refine call_of [0, 1, 2, 3, 4, 5] (c_cutV_WB m h1 hh) (by rfl) (by rfl) ?_
  conv => whnf
  cases i1
  · refine ⟨rfl, by simp, (by decide : 5 + 1 ≤ 6), ?_⟩
    conv => whnf
    exact end_of [0, 1, 2, 3, 4, 5] (by rfl) (by rfl) (by rfl) (by exact ⟨rfl, rfl⟩)
  · refine ⟨rfl, by simp, (by decide : 5 + 1 ≤ 6), ?_⟩
    conv => whnf
    exact end_of [0, 1, 2, 3, 4, 5] (by rfl) (by rfl) (by rfl) (by exact ⟨rfl, rfl⟩)

set_option maxRecDepth 100000 in
theorem c_mat_FA (o0 : Int) (h0 : Nat) (i0 : Option (List El_vt)) (u0 : List El_vt) (s0 : List Bool) (v : El_vt) : SpecD S 40 [.ptr 0 0, .agg (enc_vt zvt), .agg (enc_vt v)] (ck l lo se re (.own .vt 4 0 h0 .full) (.own .frame 5 0 1 .whole) op [(mkF o0 h0 i0 u0 s0 true)]) (.bool true) (ck l lo se re (.own .vt 4 0 h0 .full) (.own .frame 5 0 1 .whole) op [(mkF o0 h0 i0 u0 s0 true)]) := by
  refine specE ok sh40 rfl ?_
  conv => whnf
  exact end_of [0, 1, 2, 3, 4, 5] (by rfl) (by rfl) (by rfl) (by exact ⟨rfl, rfl⟩)

set_option maxRecDepth 100000 in
theorem c_Pop_FA (o0 : Int) (h0 : Nat) (i0 : Option (List El_vt)) (u0 : List El_vt) (s0 : List Bool) : SpecD S 39 [.ptr 0 0] (ck l lo se re (.own .vt 4 0 h0 .full) (.own .frame 5 0 1 .whole) op [(mkF o0 h0 i0 u0 s0 true)]) (.tup [.agg (enc_vt zvt), .int .i64 0]) (ck l lo se re (.own .vt 4 0 h0 .full) (.own .frame 5 0 1 .whole) op [(mkF o0 h0 i0 u0 s0 true)]) := by
  refine specE ok sh39 rfl ?_
  conv => whnf
  refine call_of [0, 1, 2, 3, 4, 5] (c_shut_FA h0) (by rfl) (by rfl) ?_
  conv => whnf
  refine call_of [0, 1, 2, 3, 4, 5] (c_top_FA h0) (by rfl) (by rfl) ?_
  conv => whnf
  refine ⟨rfl, by simp, (by decide : 3 + 1 ≤ 6), ?_⟩
  conv => whnf
  refine call_of [0, 1, 2, 3, 4, 5] (c_sizeV_FA h0) (by rfl) (by rfl) ?_
  conv => whnf
  refine And.intro (by repeat first | exact trivial | refine And.intro (by first | rfl | exact trivial) ?_) ?_
  conv => whnf
  have hd : decide ((List.getD [(mkF o0 h0 i0 u0 s0 true)] 0 (S.zero .frame)).height < (h0 : Int)) = false := decide_eq_false (by show ¬ ((h0 : Int) < h0); omega)
  rw [hd]
  conv => whnf
  refine ⟨rfl, by simp, (by decide : 5 + 1 ≤ 6), ?_⟩
  conv => whnf
  exact end_of [0, 1, 2, 3, 4, 5] (by rfl) (by rfl) (by rfl) (by exact ⟨rfl, rfl⟩)

set_option maxRecDepth 100000 in
theorem c_PopT_FA (o0 : Int) (h0 : Nat) (i0 : Option (List El_vt)) (u0 : List El_vt) (s0 : List Bool) (v : El_vt) : SpecD S 28 [.ptr 0 0, .agg (enc_vt v)] (ck l lo se re (.own .vt 4 0 h0 .full) (.own .frame 5 0 1 .whole) op [(mkF o0 h0 i0 u0 s0 true)]) (.tup [.agg (enc_vt zvt), .int .i64 0]) (ck l lo se re (.own .vt 4 0 h0 .full) (.own .frame 5 0 1 .whole) op [(mkF o0 h0 i0 u0 s0 true)]) := by
  refine specE ok sh28 rfl ?_
  conv => whnf
  refine call_of [0, 1, 2, 3, 4, 5] (c_none_FA h0) (by rfl) (by rfl) ?_
  conv => whnf
  refine call_of [0, 1, 2, 3, 4, 5] (c_sizeV_FA h0) (by rfl) (by rfl) ?_
  conv => whnf
  refine call_of [0, 1, 2, 3, 4, 5] (c_Pop_FA o0 h0 i0 u0 s0) (by rfl) (by rfl) ?_
  conv => whnf
  refine call_of [0, 1, 2, 3, 4, 5] (c_mat_FA o0 h0 i0 u0 s0 v) (by rfl) (by rfl) ?_
  conv => whnf
  exact end_of [0, 1, 2, 3, 4, 5] (by rfl) (by rfl) (by rfl) (by exact ⟨rfl, rfl⟩)

set_option maxRecDepth 100000 in
theorem c_Pops_FA (o0 : Int) (h0 : Nat) (i0 : Option (List El_vt)) (u0 : List El_vt) (s0 : List Bool) (q : List El_vt) (hq : q.length ≤ 1048576) : SpecD S 9 [.ptr 0 0, .imm .vt q] (ck l lo se re (.own .vt 4 0 h0 .full) (.own .frame 5 0 1 .whole) op [(mkF o0 h0 i0 u0 s0 true)]) (.int .i64 0) (ck l lo se re (.own .vt 4 0 h0 .full) (.own .frame 5 0 1 .whole) op [(mkF o0 h0 i0 u0 s0 true)]) := by
  refine specE ok sh9 rfl ?_
  conv => whnf
  refine call_of [0, 1, 2, 3, 4, 5] (c_shut_FA h0) (by rfl) (by rfl) ?_
  conv => whnf
  have hw0 : IntKind.i64.wrap ((q.length : Int) - 1) = (q.length : Int) - 1 := wrap_i64 (by omega) (by omega)
  refine loop_of [] [0, 1, 2, 3, 4, 5, 6] (fun vs H => ∃ j : Nat, j ≤ q.length ∧ vs = popsV q ((j : Int) - 1) ∧ H = (ck l lo se re (.own .vt 4 0 h0 .full) (.own .frame 5 0 1 .whole) op [(mkF o0 h0 i0 u0 s0 true)]) ++ [.cells [.own .vt 4 0 h0 .full]])
    (fun vs _ => match vs with | [_, _, _, .int _ j] => (j + 1).toNat | _ => 0) (by rfl) (by rfl) (by rfl) (by rfl) ?_ ?_
  · exact ⟨q.length, Nat.le_refl _, congrArg (popsV q) hw0, rfl⟩
  rintro vs H1 ⟨j, hj, rfl, rfl⟩
  conv => whnf
  cases hd : decide ((0 : Int) ≤ (j : Int) - 1)
  · conv => whnf
    exact end_of [0, 1, 2, 3, 4, 5] (by rfl) (by rfl) (by rfl) (by exact ⟨rfl, rfl⟩)
  · conv => whnf
    have := of_decide_eq_true hd
    refine ⟨rfl, by omega, by omega, ?_⟩
    conv => whnf
    refine ⟨by omega, by decide, ?_⟩
    generalize q.getD (Int.toNat ((j : Int) - 1)) (S.zero .vt) = y
    conv => whnf
    refine call_of [0, 1, 2, 3, 4, 5] (c_PopT_FA o0 h0 i0 u0 s0 y) (by rfl) (by rfl) ?_
    conv => whnf
    have hw : IntKind.i64.wrap ((j : Int) - 1 - 1) = ((j - 1 : Nat) : Int) - 1 := by rw [wrap_i64 (by omega) (by omega)]; omega
    refine ⟨[0, 1, 2, 3, 4, 5, 6], [], relo_of [0, 1, 2, 3, 4, 5, 6] (by rfl) (by rfl), ?_⟩
    refine ⟨⟨j - 1, by omega, congrArg (popsV q) hw, rfl⟩, ?_⟩
    show (IntKind.i64.wrap ((j : Int) - 1 - 1) + 1).toNat < ((j : Int) - 1 + 1).toNat
    rw [hw]; omega

set_option maxRecDepth 100000 in
theorem c_mat_FB (f0 : El_frame) (o1 : Int) (h1 : Nat) (i1 : Option (List El_vt)) (u1 : List El_vt) (s1 : List Bool) (v : El_vt) : SpecD S 40 [.ptr 0 0, .agg (enc_vt zvt), .agg (enc_vt v)] (ck l lo se re (.own .vt 4 0 h1 .full) (.own .frame 5 0 2 .whole) op [f0, (mkF o1 h1 i1 u1 s1 true)]) (.bool true) (ck l lo se re (.own .vt 4 0 h1 .full) (.own .frame 5 0 2 .whole) op [f0, (mkF o1 h1 i1 u1 s1 true)]) := by
  refine specE ok sh40 rfl ?_
  conv => whnf
  exact end_of [0, 1, 2, 3, 4, 5] (by rfl) (by rfl) (by rfl) (by exact ⟨rfl, rfl⟩)

set_option maxRecDepth 100000 in
theorem c_Pop_FB (f0 : El_frame) (o1 : Int) (h1 : Nat) (i1 : Option (List El_vt)) (u1 : List El_vt) (s1 : List Bool) : SpecD S 39 [.ptr 0 0] (ck l lo se re (.own .vt 4 0 h1 .full) (.own .frame 5 0 2 .whole) op [f0, (mkF o1 h1 i1 u1 s1 true)]) (.tup [.agg (enc_vt zvt), .int .i64 0]) (ck l lo se re (.own .vt 4 0 h1 .full) (.own .frame 5 0 2 .whole) op [f0, (mkF o1 h1 i1 u1 s1 true)]) := by
  refine specE ok sh39 rfl ?_
  conv => whnf
  refine call_of [0, 1, 2, 3, 4, 5] (c_shut_FB h1) (by rfl) (by rfl) ?_
  conv => whnf
  refine call_of [0, 1, 2, 3, 4, 5] (c_top_FB h1) (by rfl) (by rfl) ?_
  conv => whnf
  refine ⟨rfl, by simp, (by decide : 3 + 1 ≤ 6), ?_⟩
  conv => whnf
  refine call_of [0, 1, 2, 3, 4, 5] (c_sizeV_FB h1) (by rfl) (by rfl) ?_
  conv => whnf
  refine And.intro (by repeat first | exact trivial | refine And.intro (by first | rfl | exact trivial) ?_) ?_
  conv => whnf
  have hd : decide ((List.getD [f0, (mkF o1 h1 i1 u1 s1 true)] 1 (S.zero .frame)).height < (h1 : Int)) = false := decide_eq_false (by show ¬ ((h1 : Int) < h1); omega)
  rw [hd]
  conv => whnf
  refine ⟨rfl, by simp, (by decide : 5 + 1 ≤ 6), ?_⟩
  conv => whnf
  exact end_of [0, 1, 2, 3, 4, 5] (by rfl) (by rfl) (by rfl) (by exact ⟨rfl, rfl⟩)

set_option maxRecDepth 100000 in
theorem c_PopT_FB (f0 : El_frame) (o1 : Int) (h1 : Nat) (i1 : Option (List El_vt)) (u1 : List El_vt) (s1 : List Bool) (v : El_vt) : SpecD S 28 [.ptr 0 0, .agg (enc_vt v)] (ck l lo se re (.own .vt 4 0 h1 .full) (.own .frame 5 0 2 .whole) op [f0, (mkF o1 h1 i1 u1 s1 true)]) (.tup [.agg (enc_vt zvt), .int .i64 0]) (ck l lo se re (.own .vt 4 0 h1 .full) (.own .frame 5 0 2 .whole) op [f0, (mkF o1 h1 i1 u1 s1 true)]) := by
  refine specE ok sh28 rfl ?_
  conv => whnf
  refine call_of [0, 1, 2, 3, 4, 5] (c_none_FB h1) (by rfl) (by rfl) ?_
  conv => whnf
  refine call_of [0, 1, 2, 3, 4, 5] (c_sizeV_FB h1) (by rfl) (by rfl) ?_
  conv => whnf
  refine call_of [0, 1, 2, 3, 4, 5] (c_Pop_FB f0 o1 h1 i1 u1 s1) (by rfl) (by rfl) ?_
  conv => whnf
  refine call_of [0, 1, 2, 3, 4, 5] (c_mat_FB f0 o1 h1 i1 u1 s1 v) (by rfl) (by rfl) ?_
  conv => whnf
  exact end_of [0, 1, 2, 3, 4, 5] (by rfl) (by rfl) (by rfl) (by exact ⟨rfl, rfl⟩)

set_option maxRecDepth 100000 in
theorem c_Pops_FB (f0 : El_frame) (o1 : Int) (h1 : Nat) (i1 : Option (List El_vt)) (u1 : List El_vt) (s1 : List Bool) (q : List El_vt) (hq : q.length ≤ 1048576) : SpecD S 9 [.ptr 0 0, .imm .vt q] (ck l lo se re (.own .vt 4 0 h1 .full) (.own .frame 5 0 2 .whole) op [f0, (mkF o1 h1 i1 u1 s1 true)]) (.int .i64 0) (ck l lo se re (.own .vt 4 0 h1 .full) (.own .frame 5 0 2 .whole) op [f0, (mkF o1 h1 i1 u1 s1 true)]) := by
  refine specE ok sh9 rfl ?_
  conv => whnf
  refine call_of [0, 1, 2, 3, 4, 5] (c_shut_FB h1) (by rfl) (by rfl) ?_
  conv => whnf
  have hw0 : IntKind.i64.wrap ((q.length : Int) - 1) = (q.length : Int) - 1 := wrap_i64 (by omega) (by omega)
  refine loop_of [] [0, 1, 2, 3, 4, 5, 6] (fun vs H => ∃ j : Nat, j ≤ q.length ∧ vs = popsV q ((j : Int) - 1) ∧ H = (ck l lo se re (.own .vt 4 0 h1 .full) (.own .frame 5 0 2 .whole) op [f0, (mkF o1 h1 i1 u1 s1 true)]) ++ [.cells [.own .vt 4 0 h1 .full]])
    (fun vs _ => match vs with | [_, _, _, .int _ j] => (j + 1).toNat | _ => 0) (by rfl) (by rfl) (by rfl) (by rfl) ?_ ?_
  · exact ⟨q.length, Nat.le_refl _, congrArg (popsV q) hw0, rfl⟩
  rintro vs H1 ⟨j, hj, rfl, rfl⟩
  conv => whnf
  cases hd : decide ((0 : Int) ≤ (j : Int) - 1)
  · conv => whnf
    exact end_of [0, 1, 2, 3, 4, 5] (by rfl) (by rfl) (by rfl) (by exact ⟨rfl, rfl⟩)
  · conv => whnf
    have := of_decide_eq_true hd
    refine ⟨rfl, by omega, by omega, ?_⟩
    conv => whnf
    refine ⟨by omega, by decide, ?_⟩
    generalize q.getD (Int.toNat ((j : Int) - 1)) (S.zero .vt) = y
    conv => whnf
    refine call_of [0, 1, 2, 3, 4, 5] (c_PopT_FB f0 o1 h1 i1 u1 s1 y) (by rfl) (by rfl) ?_
    conv => whnf
    have hw : IntKind.i64.wrap ((j : Int) - 1 - 1) = ((j - 1 : Nat) : Int) - 1 := by rw [wrap_i64 (by omega) (by omega)]; omega
    refine ⟨[0, 1, 2, 3, 4, 5, 6], [], relo_of [0, 1, 2, 3, 4, 5, 6] (by rfl) (by rfl), ?_⟩
    refine ⟨⟨j - 1, by omega, congrArg (popsV q) hw, rfl⟩, ?_⟩
    show (IntKind.i64.wrap ((j : Int) - 1 - 1) + 1).toNat < ((j : Int) - 1 + 1).toNat
    rw [hw]; omega

end Sh
end Go.Proofs.YtlnloekadohddaaDoor
