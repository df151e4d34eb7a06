/- MADE BY PROGRAM (skcgen.py): what a checker's methods answer, at the states that the laws reach. -/
import Derived.Test.YtlnloekadohddaaDoorSkB
namespace Go.Proofs.YtlnloekadohddaaDoor
open Go
namespace Sh

def mkF (op h : Int) (inn : Option (List El_vt)) (out : List El_vt) (sets : List Bool) (dead : Bool) : El_frame := ⟨op, inn, some out, h, some sets, dead⟩
def zvt : El_vt := ⟨0, false, 0⟩

def ckC (l : List El_grp) (nl ns nr : Nat) (O F : V) : AO KT ElT := .cells [.bool true, .imm .grp l, .own .vt 1 0 nl .whole, .own .bool 2 0 ns .whole, .own .vt 3 0 nr .whole, O, F]
/-- A checker: its cells, locals, set locals, results, operands, frames. -/
def ck (l : List El_grp) (lo : List El_vt) (se : List Bool) (re : List El_vt) (O F : V) (op : List El_vt) (fr : List El_frame) : Heap KT ElT :=
  [ckC l lo.length se.length re.length O F, .row .vt lo, .row .bool se, .row .vt re, .row .vt op, .row .frame fr]

variable {l : List El_grp} {lo : List El_vt} {se : List Bool} {re : List El_vt} {op : List El_vt}

set_option maxRecDepth 100000 in
theorem c_none_WA (m : Nat) {f0 : El_frame} : SpecD S 25 [.ptr 0 0] (ck l lo se re (.own .vt 4 0 m .whole) (.own .frame 5 0 1 .whole) op [f0]) (.bool false) (ck l lo se re (.own .vt 4 0 m .whole) (.own .frame 5 0 1 .whole) op [f0]) := by
  refine specE ok sh25 rfl ?_
  conv => whnf
  exact end_of [0, 1, 2, 3, 4, 5] (by rfl) (by rfl) (by rfl) (by exact ⟨rfl, rfl⟩)

set_option maxRecDepth 100000 in
theorem c_sizeV_WA (m : Nat) {f0 : El_frame} : SpecD S 26 [.ptr 0 5] (ck l lo se re (.own .vt 4 0 m .whole) (.own .frame 5 0 1 .whole) op [f0]) (.int .i64 m) (ck l lo se re (.own .vt 4 0 m .whole) (.own .frame 5 0 1 .whole) op [f0]) := by
  refine specE ok sh26 rfl ?_
  conv => whnf
  exact end_of [0, 1, 2, 3, 4, 5] (by rfl) (by rfl) (by rfl) (by exact ⟨rfl, rfl⟩)

set_option maxRecDepth 100000 in
theorem c_sizeF_WA (m : Nat) {f0 : El_frame} : SpecD S 27 [.ptr 0 6] (ck l lo se re (.own .vt 4 0 m .whole) (.own .frame 5 0 1 .whole) op [f0]) (.int .i64 1) (ck l lo se re (.own .vt 4 0 m .whole) (.own .frame 5 0 1 .whole) op [f0]) := by
  refine specE ok sh27 rfl ?_
  conv => whnf
  exact end_of [0, 1, 2, 3, 4, 5] (by rfl) (by rfl) (by rfl) (by exact ⟨rfl, rfl⟩)

set_option maxRecDepth 100000 in
theorem c_shut_WA (m : Nat) {f0 : El_frame} : SpecD S 22 [.ptr 0 0] (ck l lo se re (.own .vt 4 0 m .whole) (.own .frame 5 0 1 .whole) op [f0]) (.int .i64 0) (ck l lo se re (.own .vt 4 0 m .whole) (.own .frame 5 0 1 .whole) op [f0]) := by
  refine specE ok sh22 rfl ?_
  conv => whnf
  refine call_of [0, 1, 2, 3, 4, 5] (c_none_WA m) (by rfl) (by rfl) ?_
  conv => whnf
  refine call_of [0, 1, 2, 3, 4, 5] (c_sizeF_WA m) (by rfl) (by rfl) ?_
  conv => whnf
  exact end_of [0, 1, 2, 3, 4, 5] (by rfl) (by rfl) (by rfl) (by exact ⟨rfl, rfl⟩)

set_option maxRecDepth 100000 in
theorem c_top_WA (m : Nat) {f0 : El_frame} : SpecD S 23 [.ptr 0 6] (ck l lo se re (.own .vt 4 0 m .whole) (.own .frame 5 0 1 .whole) op [f0]) (.eptr .frame 5 0 0) (ck l lo se re (.own .vt 4 0 m .whole) (.own .frame 5 0 1 .whole) op [f0]) := by
  refine specE ok sh23 rfl ?_
  conv => whnf
  refine ⟨rfl, by decide, by decide, ?_⟩
  conv => whnf
  exact end_of [0, 1, 2, 3, 4, 5] (by rfl) (by rfl) (by rfl) (by exact ⟨rfl, rfl⟩)

set_option maxRecDepth 100000 in
theorem c_cutV_WA (m n : Nat) {f0 : El_frame} (hn : n ≤ m) : SpecD S 24 [.ptr 0 5, .int .i64 n] (ck l lo se re (.own .vt 4 0 m .whole) (.own .frame 5 0 1 .whole) op [f0]) (.tup []) (ck l lo se re (.own .vt 4 0 n .full) (.own .frame 5 0 1 .whole) op [f0]) := by
  refine specE ok sh24 rfl ?_
  conv => whnf
  refine ⟨rfl, by omega, by omega, by omega, rfl, ?_⟩
  rw [show ((n : Int).toNat - Int.toNat 0) = n by simp, show (0 + Int.toNat 0) = 0 by rfl]
  conv => whnf
  exact end_of [0, 1, 2, 3, 4, 5] (by rfl) (by rfl) (by rfl) (by exact ⟨rfl, rfl⟩)

set_option maxRecDepth 100000 in
theorem c_Height_WA (m : Nat) {f0 : El_frame} : SpecD S 7 [.ptr 0 0] (ck l lo se re (.own .vt 4 0 m .whole) (.own .frame 5 0 1 .whole) op [f0]) (.int .i64 m) (ck l lo se re (.own .vt 4 0 m .whole) (.own .frame 5 0 1 .whole) op [f0]) := by
  refine specE ok sh7 rfl ?_
  conv => whnf
  refine call_of [0, 1, 2, 3, 4, 5] (c_none_WA m) (by rfl) (by rfl) ?_
  conv => whnf
  refine call_of [0, 1, 2, 3, 4, 5] (c_sizeV_WA m) (by rfl) (by rfl) ?_
  conv => whnf
  exact end_of [0, 1, 2, 3, 4, 5] (by rfl) (by rfl) (by rfl) (by exact ⟨rfl, rfl⟩)

set_option maxRecDepth 100000 in
theorem c_Depth_WA (m : Nat) {f0 : El_frame} : SpecD S 14 [.ptr 0 0] (ck l lo se re (.own .vt 4 0 m .whole) (.own .frame 5 0 1 .whole) op [f0]) (.int .i64 1) (ck l lo se re (.own .vt 4 0 m .whole) (.own .frame 5 0 1 .whole) op [f0]) := by
  refine specE ok sh14 rfl ?_
  conv => whnf
  refine call_of [0, 1, 2, 3, 4, 5] (c_none_WA m) (by rfl) (by rfl) ?_
  conv => whnf
  refine call_of [0, 1, 2, 3, 4, 5] (c_sizeF_WA m) (by rfl) (by rfl) ?_
  conv => whnf
  exact end_of [0, 1, 2, 3, 4, 5] (by rfl) (by rfl) (by rfl) (by exact ⟨rfl, rfl⟩)

set_option maxRecDepth 100000 in
theorem c_Reached_WA (m : Nat) {f0 : El_frame} : SpecD S 8 [.ptr 0 0] (ck l lo se re (.own .vt 4 0 m .whole) (.own .frame 5 0 1 .whole) op [f0]) (.bool (!f0.dead)) (ck l lo se re (.own .vt 4 0 m .whole) (.own .frame 5 0 1 .whole) op [f0]) := by
  refine specE ok sh8 rfl ?_
  conv => whnf
  refine call_of [0, 1, 2, 3, 4, 5] (c_none_WA m) (by rfl) (by rfl) ?_
  conv => whnf
  refine call_of [0, 1, 2, 3, 4, 5] (c_sizeF_WA m) (by rfl) (by rfl) ?_
  conv => whnf
  refine call_of [0, 1, 2, 3, 4, 5] (c_top_WA m) (by rfl) (by rfl) ?_
  conv => whnf
  refine ⟨rfl, by simp, by decide, ?_⟩
  conv => whnf
  exact end_of [0, 1, 2, 3, 4, 5] (by rfl) (by rfl) (by rfl) (by exact ⟨rfl, rfl⟩)

set_option maxRecDepth 100000 in
theorem c_none_FA (m : Nat) {f0 : El_frame} : SpecD S 25 [.ptr 0 0] (ck l lo se re (.own .vt 4 0 m .full) (.own .frame 5 0 1 .whole) op [f0]) (.bool false) (ck l lo se re (.own .vt 4 0 m .full) (.own .frame 5 0 1 .whole) op [f0]) := by
  refine specE ok sh25 rfl ?_
  conv => whnf
  exact end_of [0, 1, 2, 3, 4, 5] (by rfl) (by rfl) (by rfl) (by exact ⟨rfl, rfl⟩)

set_option maxRecDepth 100000 in
theorem c_sizeV_FA (m : Nat) {f0 : El_frame} : SpecD S 26 [.ptr 0 5] (ck l lo se re (.own .vt 4 0 m .full) (.own .frame 5 0 1 .whole) op [f0]) (.int .i64 m) (ck l lo se re (.own .vt 4 0 m .full) (.own .frame 5 0 1 .whole) op [f0]) := by
  refine specE ok sh26 rfl ?_
  conv => whnf
  exact end_of [0, 1, 2, 3, 4, 5] (by rfl) (by rfl) (by rfl) (by exact ⟨rfl, rfl⟩)

set_option maxRecDepth 100000 in
theorem c_sizeF_FA (m : Nat) {f0 : El_frame} : SpecD S 27 [.ptr 0 6] (ck l lo se re (.own .vt 4 0 m .full) (.own .frame 5 0 1 .whole) op [f0]) (.int .i64 1) (ck l lo se re (.own .vt 4 0 m .full) (.own .frame 5 0 1 .whole) op [f0]) := by
  refine specE ok sh27 rfl ?_
  conv => whnf
  exact end_of [0, 1, 2, 3, 4, 5] (by rfl) (by rfl) (by rfl) (by exact ⟨rfl, rfl⟩)

set_option maxRecDepth 100000 in
theorem c_shut_FA (m : Nat) {f0 : El_frame} : SpecD S 22 [.ptr 0 0] (ck l lo se re (.own .vt 4 0 m .full) (.own .frame 5 0 1 .whole) op [f0]) (.int .i64 0) (ck l lo se re (.own .vt 4 0 m .full) (.own .frame 5 0 1 .whole) op [f0]) := by
  refine specE ok sh22 rfl ?_
  conv => whnf
  refine call_of [0, 1, 2, 3, 4, 5] (c_none_FA m) (by rfl) (by rfl) ?_
  conv => whnf
  refine call_of [0, 1, 2, 3, 4, 5] (c_sizeF_FA m) (by rfl) (by rfl) ?_
  conv => whnf
  exact end_of [0, 1, 2, 3, 4, 5] (by rfl) (by rfl) (by rfl) (by exact ⟨rfl, rfl⟩)

set_option maxRecDepth 100000 in
theorem c_top_FA (m : Nat) {f0 : El_frame} : SpecD S 23 [.ptr 0 6] (ck l lo se re (.own .vt 4 0 m .full) (.own .frame 5 0 1 .whole) op [f0]) (.eptr .frame 5 0 0) (ck l lo se re (.own .vt 4 0 m .full) (.own .frame 5 0 1 .whole) op [f0]) := by
  refine specE ok sh23 rfl ?_
  conv => whnf
  refine ⟨rfl, by decide, by decide, ?_⟩
  conv => whnf
  exact end_of [0, 1, 2, 3, 4, 5] (by rfl) (by rfl) (by rfl) (by exact ⟨rfl, rfl⟩)

set_option maxRecDepth 100000 in
theorem c_cutV_FA (m n : Nat) {f0 : El_frame} (hn : n ≤ m) : SpecD S 24 [.ptr 0 5, .int .i64 n] (ck l lo se re (.own .vt 4 0 m .full) (.own .frame 5 0 1 .whole) op [f0]) (.tup []) (ck l lo se re (.own .vt 4 0 n .full) (.own .frame 5 0 1 .whole) op [f0]) := by
  refine specE ok sh24 rfl ?_
  conv => whnf
  refine ⟨rfl, by omega, by omega, by omega, rfl, ?_⟩
  rw [show ((n : Int).toNat - Int.toNat 0) = n by simp, show (0 + Int.toNat 0) = 0 by rfl]
  conv => whnf
  exact end_of [0, 1, 2, 3, 4, 5] (by rfl) (by rfl) (by rfl) (by exact ⟨rfl, rfl⟩)

set_option maxRecDepth 100000 in
theorem c_Height_FA (m : Nat) {f0 : El_frame} : SpecD S 7 [.ptr 0 0] (ck l lo se re (.own .vt 4 0 m .full) (.own .frame 5 0 1 .whole) op [f0]) (.int .i64 m) (ck l lo se re (.own .vt 4 0 m .full) (.own .frame 5 0 1 .whole) op [f0]) := by
  refine specE ok sh7 rfl ?_
  conv => whnf
  refine call_of [0, 1, 2, 3, 4, 5] (c_none_FA m) (by rfl) (by rfl) ?_
  conv => whnf
  refine call_of [0, 1, 2, 3, 4, 5] (c_sizeV_FA m) (by rfl) (by rfl) ?_
  conv => whnf
  exact end_of [0, 1, 2, 3, 4, 5] (by rfl) (by rfl) (by rfl) (by exact ⟨rfl, rfl⟩)

set_option maxRecDepth 100000 in
theorem c_Depth_FA (m : Nat) {f0 : El_frame} : SpecD S 14 [.ptr 0 0] (ck l lo se re (.own .vt 4 0 m .full) (.own .frame 5 0 1 .whole) op [f0]) (.int .i64 1) (ck l lo se re (.own .vt 4 0 m .full) (.own .frame 5 0 1 .whole) op [f0]) := by
  refine specE ok sh14 rfl ?_
  conv => whnf
  refine call_of [0, 1, 2, 3, 4, 5] (c_none_FA m) (by rfl) (by rfl) ?_
  conv => whnf
  refine call_of [0, 1, 2, 3, 4, 5] (c_sizeF_FA m) (by rfl) (by rfl) ?_
  conv => whnf
  exact end_of [0, 1, 2, 3, 4, 5] (by rfl) (by rfl) (by rfl) (by exact ⟨rfl, rfl⟩)

set_option maxRecDepth 100000 in
theorem c_Reached_FA (m : Nat) {f0 : El_frame} : SpecD S 8 [.ptr 0 0] (ck l lo se re (.own .vt 4 0 m .full) (.own .frame 5 0 1 .whole) op [f0]) (.bool (!f0.dead)) (ck l lo se re (.own .vt 4 0 m .full) (.own .frame 5 0 1 .whole) op [f0]) := by
  refine specE ok sh8 rfl ?_
  conv => whnf
  refine call_of [0, 1, 2, 3, 4, 5] (c_none_FA m) (by rfl) (by rfl) ?_
  conv => whnf
  refine call_of [0, 1, 2, 3, 4, 5] (c_sizeF_FA m) (by rfl) (by rfl) ?_
  conv => whnf
  refine call_of [0, 1, 2, 3, 4, 5] (c_top_FA m) (by rfl) (by rfl) ?_
  conv => whnf
  refine ⟨rfl, by simp, by decide, ?_⟩
  conv => whnf
  exact end_of [0, 1, 2, 3, 4, 5] (by rfl) (by rfl) (by rfl) (by exact ⟨rfl, rfl⟩)

set_option maxRecDepth 100000 in
theorem c_none_FB (m : Nat) {f0 f1 : El_frame} : SpecD S 25 [.ptr 0 0] (ck l lo se re (.own .vt 4 0 m .full) (.own .frame 5 0 2 .whole) op [f0, f1]) (.bool false) (ck l lo se re (.own .vt 4 0 m .full) (.own .frame 5 0 2 .whole) op [f0, f1]) := by
  refine specE ok sh25 rfl ?_
  conv => whnf
  exact end_of [0, 1, 2, 3, 4, 5] (by rfl) (by rfl) (by rfl) (by exact ⟨rfl, rfl⟩)

set_option maxRecDepth 100000 in
theorem c_sizeV_FB (m : Nat) {f0 f1 : El_frame} : SpecD S 26 [.ptr 0 5] (ck l lo se re (.own .vt 4 0 m .full) (.own .frame 5 0 2 .whole) op [f0, f1]) (.int .i64 m) (ck l lo se re (.own .vt 4 0 m .full) (.own .frame 5 0 2 .whole) op [f0, f1]) := by
  refine specE ok sh26 rfl ?_
  conv => whnf
  exact end_of [0, 1, 2, 3, 4, 5] (by rfl) (by rfl) (by rfl) (by exact ⟨rfl, rfl⟩)

set_option maxRecDepth 100000 in
theorem c_sizeF_FB (m : Nat) {f0 f1 : El_frame} : SpecD S 27 [.ptr 0 6] (ck l lo se re (.own .vt 4 0 m .full) (.own .frame 5 0 2 .whole) op [f0, f1]) (.int .i64 2) (ck l lo se re (.own .vt 4 0 m .full) (.own .frame 5 0 2 .whole) op [f0, f1]) := by
  refine specE ok sh27 rfl ?_
  conv => whnf
  exact end_of [0, 1, 2, 3, 4, 5] (by rfl) (by rfl) (by rfl) (by exact ⟨rfl, rfl⟩)

set_option maxRecDepth 100000 in
theorem c_shut_FB (m : Nat) {f0 f1 : El_frame} : SpecD S 22 [.ptr 0 0] (ck l lo se re (.own .vt 4 0 m .full) (.own .frame 5 0 2 .whole) op [f0, f1]) (.int .i64 0) (ck l lo se re (.own .vt 4 0 m .full) (.own .frame 5 0 2 .whole) op [f0, f1]) := by
  refine specE ok sh22 rfl ?_
  conv => whnf
  refine call_of [0, 1, 2, 3, 4, 5] (c_none_FB m) (by rfl) (by rfl) ?_
  conv => whnf
  refine call_of [0, 1, 2, 3, 4, 5] (c_sizeF_FB m) (by rfl) (by rfl) ?_
  conv => whnf
  exact end_of [0, 1, 2, 3, 4, 5] (by rfl) (by rfl) (by rfl) (by exact ⟨rfl, rfl⟩)

set_option maxRecDepth 100000 in
theorem c_top_FB (m : Nat) {f0 f1 : El_frame} : SpecD S 23 [.ptr 0 6] (ck l lo se re (.own .vt 4 0 m .full) (.own .frame 5 0 2 .whole) op [f0, f1]) (.eptr .frame 5 1 0) (ck l lo se re (.own .vt 4 0 m .full) (.own .frame 5 0 2 .whole) op [f0, f1]) := by
  refine specE ok sh23 rfl ?_
  conv => whnf
  refine ⟨rfl, by decide, by decide, ?_⟩
  conv => whnf
  exact end_of [0, 1, 2, 3, 4, 5] (by rfl) (by rfl) (by rfl) (by exact ⟨rfl, rfl⟩)

set_option maxRecDepth 100000 in
theorem c_cutV_FB (m n : Nat) {f0 f1 : El_frame} (hn : n ≤ m) : SpecD S 24 [.ptr 0 5, .int .i64 n] (ck l lo se re (.own .vt 4 0 m .full) (.own .frame 5 0 2 .whole) op [f0, f1]) (.tup []) (ck l lo se re (.own .vt 4 0 n .full) (.own .frame 5 0 2 .whole) op [f0, f1]) := by
  refine specE ok sh24 rfl ?_
  conv => whnf
  refine ⟨rfl, by omega, by omega, by omega, rfl, ?_⟩
  rw [show ((n : Int).toNat - Int.toNat 0) = n by simp, show (0 + Int.toNat 0) = 0 by rfl]
  conv => whnf
  exact end_of [0, 1, 2, 3, 4, 5] (by rfl) (by rfl) (by rfl) (by exact ⟨rfl, rfl⟩)

set_option maxRecDepth 100000 in
theorem c_Height_FB (m : Nat) {f0 f1 : El_frame} : SpecD S 7 [.ptr 0 0] (ck l lo se re (.own .vt 4 0 m .full) (.own .frame 5 0 2 .whole) op [f0, f1]) (.int .i64 m) (ck l lo se re (.own .vt 4 0 m .full) (.own .frame 5 0 2 .whole) op [f0, f1]) := by
  refine specE ok sh7 rfl ?_
  conv => whnf
  refine call_of [0, 1, 2, 3, 4, 5] (c_none_FB m) (by rfl) (by rfl) ?_
  conv => whnf
  refine call_of [0, 1, 2, 3, 4, 5] (c_sizeV_FB m) (by rfl) (by rfl) ?_
  conv => whnf
  exact end_of [0, 1, 2, 3, 4, 5] (by rfl) (by rfl) (by rfl) (by exact ⟨rfl, rfl⟩)

set_option maxRecDepth 100000 in
theorem c_Depth_FB (m : Nat) {f0 f1 : El_frame} : SpecD S 14 [.ptr 0 0] (ck l lo se re (.own .vt 4 0 m .full) (.own .frame 5 0 2 .whole) op [f0, f1]) (.int .i64 2) (ck l lo se re (.own .vt 4 0 m .full) (.own .frame 5 0 2 .whole) op [f0, f1]) := by
  refine specE ok sh14 rfl ?_
  conv => whnf
  refine call_of [0, 1, 2, 3, 4, 5] (c_none_FB m) (by rfl) (by rfl) ?_
  conv => whnf
  refine call_of [0, 1, 2, 3, 4, 5] (c_sizeF_FB m) (by rfl) (by rfl) ?_
  conv => whnf
  exact end_of [0, 1, 2, 3, 4, 5] (by rfl) (by rfl) (by rfl) (by exact ⟨rfl, rfl⟩)

set_option maxRecDepth 100000 in
theorem c_Reached_FB (m : Nat) {f0 f1 : El_frame} : SpecD S 8 [.ptr 0 0] (ck l lo se re (.own .vt 4 0 m .full) (.own .frame 5 0 2 .whole) op [f0, f1]) (.bool (!f1.dead)) (ck l lo se re (.own .vt 4 0 m .full) (.own .frame 5 0 2 .whole) op [f0, f1]) := by
  refine specE ok sh8 rfl ?_
  conv => whnf
  refine call_of [0, 1, 2, 3, 4, 5] (c_none_FB m) (by rfl) (by rfl) ?_
  conv => whnf
  refine call_of [0, 1, 2, 3, 4, 5] (c_sizeF_FB m) (by rfl) (by rfl) ?_
  conv => whnf
  refine call_of [0, 1, 2, 3, 4, 5] (c_top_FB m) (by rfl) (by rfl) ?_
  conv => whnf
  refine ⟨rfl, by simp, by decide, ?_⟩
  conv => whnf
  exact end_of [0, 1, 2, 3, 4, 5] (by rfl) (by rfl) (by rfl) (by exact ⟨rfl, rfl⟩)

set_option maxRecDepth 100000 in
theorem c_none_WB (m : Nat) {f0 f1 : El_frame} : SpecD S 25 [.ptr 0 0] (ck l lo se re (.own .vt 4 0 m .whole) (.own .frame 5 0 2 .whole) op [f0, f1]) (.bool false) (ck l lo se re (.own .vt 4 0 m .whole) (.own .frame 5 0 2 .whole) op [f0, f1]) := by
  refine specE ok sh25 rfl ?_
  conv => whnf
  exact end_of [0, 1, 2, 3, 4, 5] (by rfl) (by rfl) (by rfl) (by exact ⟨rfl, rfl⟩)

set_option maxRecDepth 100000 in
theorem c_sizeV_WB (m : Nat) {f0 f1 : El_frame} : SpecD S 26 [.ptr 0 5] (ck l lo se re (.own .vt 4 0 m .whole) (.own .frame 5 0 2 .whole) op [f0, f1]) (.int .i64 m) (ck l lo se re (.own .vt 4 0 m .whole) (.own .frame 5 0 2 .whole) op [f0, f1]) := by
  refine specE ok sh26 rfl ?_
  conv => whnf
  exact end_of [0, 1, 2, 3, 4, 5] (by rfl) (by rfl) (by rfl) (by exact ⟨rfl, rfl⟩)

set_option maxRecDepth 100000 in
theorem c_sizeF_WB (m : Nat) {f0 f1 : El_frame} : SpecD S 27 [.ptr 0 6] (ck l lo se re (.own .vt 4 0 m .whole) (.own .frame 5 0 2 .whole) op [f0, f1]) (.int .i64 2) (ck l lo se re (.own .vt 4 0 m .whole) (.own .frame 5 0 2 .whole) op [f0, f1]) := by
  refine specE ok sh27 rfl ?_
  conv => whnf
  exact end_of [0, 1, 2, 3, 4, 5] (by rfl) (by rfl) (by rfl) (by exact ⟨rfl, rfl⟩)

set_option maxRecDepth 100000 in
theorem c_shut_WB (m : Nat) {f0 f1 : El_frame} : SpecD S 22 [.ptr 0 0] (ck l lo se re (.own .vt 4 0 m .whole) (.own .frame 5 0 2 .whole) op [f0, f1]) (.int .i64 0) (ck l lo se re (.own .vt 4 0 m .whole) (.own .frame 5 0 2 .whole) op [f0, f1]) := by
  refine specE ok sh22 rfl ?_
  conv => whnf
  refine call_of [0, 1, 2, 3, 4, 5] (c_none_WB m) (by rfl) (by rfl) ?_
  conv => whnf
  refine call_of [0, 1, 2, 3, 4, 5] (c_sizeF_WB m) (by rfl) (by rfl) ?_
  conv => whnf
  exact end_of [0, 1, 2, 3, 4, 5] (by rfl) (by rfl) (by rfl) (by exact ⟨rfl, rfl⟩)

set_option maxRecDepth 100000 in
theorem c_top_WB (m : Nat) {f0 f1 : El_frame} : SpecD S 23 [.ptr 0 6] (ck l lo se re (.own .vt 4 0 m .whole) (.own .frame 5 0 2 .whole) op [f0, f1]) (.eptr .frame 5 1 0) (ck l lo se re (.own .vt 4 0 m .whole) (.own .frame 5 0 2 .whole) op [f0, f1]) := by
  refine specE ok sh23 rfl ?_
  conv => whnf
  refine ⟨rfl, by decide, by decide, ?_⟩
  conv => whnf
  exact end_of [0, 1, 2, 3, 4, 5] (by rfl) (by rfl) (by rfl) (by exact ⟨rfl, rfl⟩)

set_option maxRecDepth 100000 in
theorem c_cutV_WB (m n : Nat) {f0 f1 : El_frame} (hn : n ≤ m) : SpecD S 24 [.ptr 0 5, .int .i64 n] (ck l lo se re (.own .vt 4 0 m .whole) (.own .frame 5 0 2 .whole) op [f0, f1]) (.tup []) (ck l lo se re (.own .vt 4 0 n .full) (.own .frame 5 0 2 .whole) op [f0, f1]) := by
  refine specE ok sh24 rfl ?_
  conv => whnf
  refine ⟨rfl, by omega, by omega, by omega, rfl, ?_⟩
  rw [show ((n : Int).toNat - Int.toNat 0) = n by simp, show (0 + Int.toNat 0) = 0 by rfl]
  conv => whnf
  exact end_of [0, 1, 2, 3, 4, 5] (by rfl) (by rfl) (by rfl) (by exact ⟨rfl, rfl⟩)

set_option maxRecDepth 100000 in
theorem c_Height_WB (m : Nat) {f0 f1 : El_frame} : SpecD S 7 [.ptr 0 0] (ck l lo se re (.own .vt 4 0 m .whole) (.own .frame 5 0 2 .whole) op [f0, f1]) (.int .i64 m) (ck l lo se re (.own .vt 4 0 m .whole) (.own .frame 5 0 2 .whole) op [f0, f1]) := by
  refine specE ok sh7 rfl ?_
  conv => whnf
  refine call_of [0, 1, 2, 3, 4, 5] (c_none_WB m) (by rfl) (by rfl) ?_
  conv => whnf
  refine call_of [0, 1, 2, 3, 4, 5] (c_sizeV_WB m) (by rfl) (by rfl) ?_
  conv => whnf
  exact end_of [0, 1, 2, 3, 4, 5] (by rfl) (by rfl) (by rfl) (by exact ⟨rfl, rfl⟩)

set_option maxRecDepth 100000 in
theorem c_Depth_WB (m : Nat) {f0 f1 : El_frame} : SpecD S 14 [.ptr 0 0] (ck l lo se re (.own .vt 4 0 m .whole) (.own .frame 5 0 2 .whole) op [f0, f1]) (.int .i64 2) (ck l lo se re (.own .vt 4 0 m .whole) (.own .frame 5 0 2 .whole) op [f0, f1]) := by
  refine specE ok sh14 rfl ?_
  conv => whnf
  refine call_of [0, 1, 2, 3, 4, 5] (c_none_WB m) (by rfl) (by rfl) ?_
  conv => whnf
  refine call_of [0, 1, 2, 3, 4, 5] (c_sizeF_WB m) (by rfl) (by rfl) ?_
  conv => whnf
  exact end_of [0, 1, 2, 3, 4, 5] (by rfl) (by rfl) (by rfl) (by exact ⟨rfl, rfl⟩)

set_option maxRecDepth 100000 in
theorem c_Reached_WB (m : Nat) {f0 f1 : El_frame} : SpecD S 8 [.ptr 0 0] (ck l lo se re (.own .vt 4 0 m .whole) (.own .frame 5 0 2 .whole) op [f0, f1]) (.bool (!f1.dead)) (ck l lo se re (.own .vt 4 0 m .whole) (.own .frame 5 0 2 .whole) op [f0, f1]) := by
  refine specE ok sh8 rfl ?_
  conv => whnf
  refine call_of [0, 1, 2, 3, 4, 5] (c_none_WB m) (by rfl) (by rfl) ?_
  conv => whnf
  refine call_of [0, 1, 2, 3, 4, 5] (c_sizeF_WB m) (by rfl) (by rfl) ?_
  conv => whnf
  refine call_of [0, 1, 2, 3, 4, 5] (c_top_WB m) (by rfl) (by rfl) ?_
  conv => whnf
  refine ⟨rfl, by simp, by decide, ?_⟩
  conv => whnf
  exact end_of [0, 1, 2, 3, 4, 5] (by rfl) (by rfl) (by rfl) (by exact ⟨rfl, rfl⟩)

set_option maxRecDepth 100000 in
theorem c_none_FC (m : Nat) {f0 f1 : El_frame} : SpecD S 25 [.ptr 0 0] (ck l lo se re (.own .vt 4 0 m .full) (.own .frame 5 0 1 .full) op [f0, f1]) (.bool false) (ck l lo se re (.own .vt 4 0 m .full) (.own .frame 5 0 1 .full) op [f0, f1]) := by
  refine specE ok sh25 rfl ?_
  conv => whnf
  exact end_of [0, 1, 2, 3, 4, 5] (by rfl) (by rfl) (by rfl) (by exact ⟨rfl, rfl⟩)

set_option maxRecDepth 100000 in
theorem c_sizeV_FC (m : Nat) {f0 f1 : El_frame} : SpecD S 26 [.ptr 0 5] (ck l lo se re (.own .vt 4 0 m .full) (.own .frame 5 0 1 .full) op [f0, f1]) (.int .i64 m) (ck l lo se re (.own .vt 4 0 m .full) (.own .frame 5 0 1 .full) op [f0, f1]) := by
  refine specE ok sh26 rfl ?_
  conv => whnf
  exact end_of [0, 1, 2, 3, 4, 5] (by rfl) (by rfl) (by rfl) (by exact ⟨rfl, rfl⟩)

set_option maxRecDepth 100000 in
theorem c_sizeF_FC (m : Nat) {f0 f1 : El_frame} : SpecD S 27 [.ptr 0 6] (ck l lo se re (.own .vt 4 0 m .full) (.own .frame 5 0 1 .full) op [f0, f1]) (.int .i64 1) (ck l lo se re (.own .vt 4 0 m .full) (.own .frame 5 0 1 .full) op [f0, f1]) := by
  refine specE ok sh27 rfl ?_
  conv => whnf
  exact end_of [0, 1, 2, 3, 4, 5] (by rfl) (by rfl) (by rfl) (by exact ⟨rfl, rfl⟩)

set_option maxRecDepth 100000 in
theorem c_shut_FC (m : Nat) {f0 f1 : El_frame} : SpecD S 22 [.ptr 0 0] (ck l lo se re (.own .vt 4 0 m .full) (.own .frame 5 0 1 .full) op [f0, f1]) (.int .i64 0) (ck l lo se re (.own .vt 4 0 m .full) (.own .frame 5 0 1 .full) op [f0, f1]) := by
  refine specE ok sh22 rfl ?_
  conv => whnf
  refine call_of [0, 1, 2, 3, 4, 5] (c_none_FC m) (by rfl) (by rfl) ?_
  conv => whnf
  refine call_of [0, 1, 2, 3, 4, 5] (c_sizeF_FC m) (by rfl) (by rfl) ?_
  conv => whnf
  exact end_of [0, 1, 2, 3, 4, 5] (by rfl) (by rfl) (by rfl) (by exact ⟨rfl, rfl⟩)

set_option maxRecDepth 100000 in
theorem c_top_FC (m : Nat) {f0 f1 : El_frame} : SpecD S 23 [.ptr 0 6] (ck l lo se re (.own .vt 4 0 m .full) (.own .frame 5 0 1 .full) op [f0, f1]) (.eptr .frame 5 0 0) (ck l lo se re (.own .vt 4 0 m .full) (.own .frame 5 0 1 .full) op [f0, f1]) := by
  refine specE ok sh23 rfl ?_
  conv => whnf
  refine ⟨rfl, by decide, by decide, ?_⟩
  conv => whnf
  exact end_of [0, 1, 2, 3, 4, 5] (by rfl) (by rfl) (by rfl) (by exact ⟨rfl, rfl⟩)

set_option maxRecDepth 100000 in
theorem c_cutV_FC (m n : Nat) {f0 f1 : El_frame} (hn : n ≤ m) : SpecD S 24 [.ptr 0 5, .int .i64 n] (ck l lo se re (.own .vt 4 0 m .full) (.own .frame 5 0 1 .full) op [f0, f1]) (.tup []) (ck l lo se re (.own .vt 4 0 n .full) (.own .frame 5 0 1 .full) op [f0, f1]) := by
  refine specE ok sh24 rfl ?_
  conv => whnf
  refine ⟨rfl, by omega, by omega, by omega, rfl, ?_⟩
  rw [show ((n : Int).toNat - Int.toNat 0) = n by simp, show (0 + Int.toNat 0) = 0 by rfl]
  conv => whnf
  exact end_of [0, 1, 2, 3, 4, 5] (by rfl) (by rfl) (by rfl) (by exact ⟨rfl, rfl⟩)

set_option maxRecDepth 100000 in
theorem c_Height_FC (m : Nat) {f0 f1 : El_frame} : SpecD S 7 [.ptr 0 0] (ck l lo se re (.own .vt 4 0 m .full) (.own .frame 5 0 1 .full) op [f0, f1]) (.int .i64 m) (ck l lo se re (.own .vt 4 0 m .full) (.own .frame 5 0 1 .full) op [f0, f1]) := by
  refine specE ok sh7 rfl ?_
  conv => whnf
  refine call_of [0, 1, 2, 3, 4, 5] (c_none_FC m) (by rfl) (by rfl) ?_
  conv => whnf
  refine call_of [0, 1, 2, 3, 4, 5] (c_sizeV_FC m) (by rfl) (by rfl) ?_
  conv => whnf
  exact end_of [0, 1, 2, 3, 4, 5] (by rfl) (by rfl) (by rfl) (by exact ⟨rfl, rfl⟩)

set_option maxRecDepth 100000 in
theorem c_Depth_FC (m : Nat) {f0 f1 : El_frame} : SpecD S 14 [.ptr 0 0] (ck l lo se re (.own .vt 4 0 m .full) (.own .frame 5 0 1 .full) op [f0, f1]) (.int .i64 1) (ck l lo se re (.own .vt 4 0 m .full) (.own .frame 5 0 1 .full) op [f0, f1]) := by
  refine specE ok sh14 rfl ?_
  conv => whnf
  refine call_of [0, 1, 2, 3, 4, 5] (c_none_FC m) (by rfl) (by rfl) ?_
  conv => whnf
  refine call_of [0, 1, 2, 3, 4, 5] (c_sizeF_FC m) (by rfl) (by rfl) ?_
  conv => whnf
  exact end_of [0, 1, 2, 3, 4, 5] (by rfl) (by rfl) (by rfl) (by exact ⟨rfl, rfl⟩)

set_option maxRecDepth 100000 in
theorem c_Reached_FC (m : Nat) {f0 f1 : El_frame} : SpecD S 8 [.ptr 0 0] (ck l lo se re (.own .vt 4 0 m .full) (.own .frame 5 0 1 .full) op [f0, f1]) (.bool (!f0.dead)) (ck l lo se re (.own .vt 4 0 m .full) (.own .frame 5 0 1 .full) op [f0, f1]) := by
  refine specE ok sh8 rfl ?_
  conv => whnf
  refine call_of [0, 1, 2, 3, 4, 5] (c_none_FC m) (by rfl) (by rfl) ?_
  conv => whnf
  refine call_of [0, 1, 2, 3, 4, 5] (c_sizeF_FC m) (by rfl) (by rfl) ?_
  conv => whnf
  refine call_of [0, 1, 2, 3, 4, 5] (c_top_FC m) (by rfl) (by rfl) ?_
  conv => whnf
  refine ⟨rfl, by simp, by decide, ?_⟩
  conv => whnf
  exact end_of [0, 1, 2, 3, 4, 5] (by rfl) (by rfl) (by rfl) (by exact ⟨rfl, rfl⟩)

set_option maxRecDepth 100000 in
theorem c_none_WC (m : Nat) {f0 f1 : El_frame} : SpecD S 25 [.ptr 0 0] (ck l lo se re (.own .vt 4 0 m .whole) (.own .frame 5 0 1 .full) op [f0, f1]) (.bool false) (ck l lo se re (.own .vt 4 0 m .whole) (.own .frame 5 0 1 .full) op [f0, f1]) := by
  refine specE ok sh25 rfl ?_
  conv => whnf
  exact end_of [0, 1, 2, 3, 4, 5] (by rfl) (by rfl) (by rfl) (by exact ⟨rfl, rfl⟩)

set_option maxRecDepth 100000 in
theorem c_sizeV_WC (m : Nat) {f0 f1 : El_frame} : SpecD S 26 [.ptr 0 5] (ck l lo se re (.own .vt 4 0 m .whole) (.own .frame 5 0 1 .full) op [f0, f1]) (.int .i64 m) (ck l lo se re (.own .vt 4 0 m .whole) (.own .frame 5 0 1 .full) op [f0, f1]) := by
  refine specE ok sh26 rfl ?_
  conv => whnf
  exact end_of [0, 1, 2, 3, 4, 5] (by rfl) (by rfl) (by rfl) (by exact ⟨rfl, rfl⟩)

set_option maxRecDepth 100000 in
theorem c_sizeF_WC (m : Nat) {f0 f1 : El_frame} : SpecD S 27 [.ptr 0 6] (ck l lo se re (.own .vt 4 0 m .whole) (.own .frame 5 0 1 .full) op [f0, f1]) (.int .i64 1) (ck l lo se re (.own .vt 4 0 m .whole) (.own .frame 5 0 1 .full) op [f0, f1]) := by
  refine specE ok sh27 rfl ?_
  conv => whnf
  exact end_of [0, 1, 2, 3, 4, 5] (by rfl) (by rfl) (by rfl) (by exact ⟨rfl, rfl⟩)

set_option maxRecDepth 100000 in
theorem c_shut_WC (m : Nat) {f0 f1 : El_frame} : SpecD S 22 [.ptr 0 0] (ck l lo se re (.own .vt 4 0 m .whole) (.own .frame 5 0 1 .full) op [f0, f1]) (.int .i64 0) (ck l lo se re (.own .vt 4 0 m .whole) (.own .frame 5 0 1 .full) op [f0, f1]) := by
  refine specE ok sh22 rfl ?_
  conv => whnf
  refine call_of [0, 1, 2, 3, 4, 5] (c_none_WC m) (by rfl) (by rfl) ?_
  conv => whnf
  refine call_of [0, 1, 2, 3, 4, 5] (c_sizeF_WC m) (by rfl) (by rfl) ?_
  conv => whnf
  exact end_of [0, 1, 2, 3, 4, 5] (by rfl) (by rfl) (by rfl) (by exact ⟨rfl, rfl⟩)

set_option maxRecDepth 100000 in
theorem c_top_WC (m : Nat) {f0 f1 : El_frame} : SpecD S 23 [.ptr 0 6] (ck l lo se re (.own .vt 4 0 m .whole) (.own .frame 5 0 1 .full) op [f0, f1]) (.eptr .frame 5 0 0) (ck l lo se re (.own .vt 4 0 m .whole) (.own .frame 5 0 1 .full) op [f0, f1]) := by
  refine specE ok sh23 rfl ?_
  conv => whnf
  refine ⟨rfl, by decide, by decide, ?_⟩
  conv => whnf
  exact end_of [0, 1, 2, 3, 4, 5] (by rfl) (by rfl) (by rfl) (by exact ⟨rfl, rfl⟩)

set_option maxRecDepth 100000 in
theorem c_cutV_WC (m n : Nat) {f0 f1 : El_frame} (hn : n ≤ m) : SpecD S 24 [.ptr 0 5, .int .i64 n] (ck l lo se re (.own .vt 4 0 m .whole) (.own .frame 5 0 1 .full) op [f0, f1]) (.tup []) (ck l lo se re (.own .vt 4 0 n .full) (.own .frame 5 0 1 .full) op [f0, f1]) := by
  refine specE ok sh24 rfl ?_
  conv => whnf
  refine ⟨rfl, by omega, by omega, by omega, rfl, ?_⟩
  rw [show ((n : Int).toNat - Int.toNat 0) = n by simp, show (0 + Int.toNat 0) = 0 by rfl]
  conv => whnf
  exact end_of [0, 1, 2, 3, 4, 5] (by rfl) (by rfl) (by rfl) (by exact ⟨rfl, rfl⟩)

set_option maxRecDepth 100000 in
theorem c_Height_WC (m : Nat) {f0 f1 : El_frame} : SpecD S 7 [.ptr 0 0] (ck l lo se re (.own .vt 4 0 m .whole) (.own .frame 5 0 1 .full) op [f0, f1]) (.int .i64 m) (ck l lo se re (.own .vt 4 0 m .whole) (.own .frame 5 0 1 .full) op [f0, f1]) := by
  refine specE ok sh7 rfl ?_
  conv => whnf
  refine call_of [0, 1, 2, 3, 4, 5] (c_none_WC m) (by rfl) (by rfl) ?_
  conv => whnf
  refine call_of [0, 1, 2, 3, 4, 5] (c_sizeV_WC m) (by rfl) (by rfl) ?_
  conv => whnf
  exact end_of [0, 1, 2, 3, 4, 5] (by rfl) (by rfl) (by rfl) (by exact ⟨rfl, rfl⟩)

set_option maxRecDepth 100000 in
theorem c_Depth_WC (m : Nat) {f0 f1 : El_frame} : SpecD S 14 [.ptr 0 0] (ck l lo se re (.own .vt 4 0 m .whole) (.own .frame 5 0 1 .full) op [f0, f1]) (.int .i64 1) (ck l lo se re (.own .vt 4 0 m .whole) (.own .frame 5 0 1 .full) op [f0, f1]) := by
  refine specE ok sh14 rfl ?_
  conv => whnf
  refine call_of [0, 1, 2, 3, 4, 5] (c_none_WC m) (by rfl) (by rfl) ?_
  conv => whnf
  refine call_of [0, 1, 2, 3, 4, 5] (c_sizeF_WC m) (by rfl) (by rfl) ?_
  conv => whnf
  exact end_of [0, 1, 2, 3, 4, 5] (by rfl) (by rfl) (by rfl) (by exact ⟨rfl, rfl⟩)

set_option maxRecDepth 100000 in
theorem c_Reached_WC (m : Nat) {f0 f1 : El_frame} : SpecD S 8 [.ptr 0 0] (ck l lo se re (.own .vt 4 0 m .whole) (.own .frame 5 0 1 .full) op [f0, f1]) (.bool (!f0.dead)) (ck l lo se re (.own .vt 4 0 m .whole) (.own .frame 5 0 1 .full) op [f0, f1]) := by
  refine specE ok sh8 rfl ?_
  conv => whnf
  refine call_of [0, 1, 2, 3, 4, 5] (c_none_WC m) (by rfl) (by rfl) ?_
  conv => whnf
  refine call_of [0, 1, 2, 3, 4, 5] (c_sizeF_WC m) (by rfl) (by rfl) ?_
  conv => whnf
  refine call_of [0, 1, 2, 3, 4, 5] (c_top_WC m) (by rfl) (by rfl) ?_
  conv => whnf
  refine ⟨rfl, by simp, by decide, ?_⟩
  conv => whnf
  exact end_of [0, 1, 2, 3, 4, 5] (by rfl) (by rfl) (by rfl) (by exact ⟨rfl, rfl⟩)

end Sh
end Go.Proofs.YtlnloekadohddaaDoor
