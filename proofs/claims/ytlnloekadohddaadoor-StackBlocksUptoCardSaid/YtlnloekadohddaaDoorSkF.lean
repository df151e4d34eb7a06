/- MADE BY PROGRAM (skfgen.py): what a checker's methods answer, part 4: frames, locals. -/
import Derived.Test.YtlnloekadohddaaDoorSkE
namespace Go.Proofs.YtlnloekadohddaaDoor
open Go
namespace Sh
variable {l : List El_grp} {lo : List El_vt} {se : List Bool} {re : List El_vt} {op : List El_vt}

set_option maxRecDepth 100000 in
theorem c_cpR_vt_whole (xs : List (ElT .vt)) (m : Nat) (hm : m ≤ xs.length) (hl : m ≤ 4000000) : SpecD S 30 [.own .vt 0 0 m .whole] [.row .vt xs] (.imm .vt (xs.take m)) [.row .vt xs] := by
  have hx : (xs.drop 0).take m = xs.take m := by rw [List.drop_zero]
  have hxl : (xs.take m).length = m := by simp; omega
  refine specE ok sh30 rfl ?_
  conv => whnf
  refine ⟨by omega, rfl, ⟨by unfold maxLen; omega, by simp [S]; omega⟩, ?_⟩
  conv => whnf
  refine ⟨rfl, by omega, ?_⟩
  conv => whnf
  refine ⟨rfl, by simp, ?_⟩
  conv => whnf
  refine endL_of [0] [1] (by rfl) (by rfl) (by rfl) ⟨trivial, trivial⟩ ⟨rfl, ?_⟩ ⟨?_, rfl⟩
  · show 0 + (m : Int).toNat ≤ (List.take 0 (List.replicate (m : Int).toNat _) ++ List.take (m : Int).toNat (List.take m (List.drop 0 xs)) ++ List.drop (0 + min (List.take m (List.drop 0 xs)).length (m : Int).toNat) (List.replicate (m : Int).toNat _)).length
    rw [hx]; simp; omega
  · show (AV.imm .vt (((List.take 0 (List.replicate (m : Int).toNat _) ++ List.take (m : Int).toNat (List.take m (List.drop 0 xs)) ++ List.drop (0 + min (List.take m (List.drop 0 xs)).length (m : Int).toNat) (List.replicate (m : Int).toNat _)).drop 0).take (m : Int).toNat) : V) = _
    rw [hx, Int.toNat_natCast, hxl, Nat.min_self]
    simp
    rw [List.take_take, List.take_take]
    simp only [Nat.min_self]

set_option maxRecDepth 100000 in
theorem c_cpR_vt_full (xs : List (ElT .vt)) (m : Nat) (hm : m ≤ xs.length) (hl : m ≤ 4000000) : SpecD S 30 [.own .vt 0 0 m .full] [.row .vt xs] (.imm .vt (xs.take m)) [.row .vt xs] := by
  have hx : (xs.drop 0).take m = xs.take m := by rw [List.drop_zero]
  have hxl : (xs.take m).length = m := by simp; omega
  refine specE ok sh30 rfl ?_
  conv => whnf
  refine ⟨by omega, rfl, ⟨by unfold maxLen; omega, by simp [S]; omega⟩, ?_⟩
  conv => whnf
  refine ⟨rfl, by omega, ?_⟩
  conv => whnf
  refine ⟨rfl, by simp, ?_⟩
  conv => whnf
  refine endL_of [0] [1] (by rfl) (by rfl) (by rfl) ⟨trivial, trivial⟩ ⟨rfl, ?_⟩ ⟨?_, rfl⟩
  · show 0 + (m : Int).toNat ≤ (List.take 0 (List.replicate (m : Int).toNat _) ++ List.take (m : Int).toNat (List.take m (List.drop 0 xs)) ++ List.drop (0 + min (List.take m (List.drop 0 xs)).length (m : Int).toNat) (List.replicate (m : Int).toNat _)).length
    rw [hx]; simp; omega
  · show (AV.imm .vt (((List.take 0 (List.replicate (m : Int).toNat _) ++ List.take (m : Int).toNat (List.take m (List.drop 0 xs)) ++ List.drop (0 + min (List.take m (List.drop 0 xs)).length (m : Int).toNat) (List.replicate (m : Int).toNat _)).drop 0).take (m : Int).toNat) : V) = _
    rw [hx, Int.toNat_natCast, hxl, Nat.min_self]
    simp
    rw [List.take_take, List.take_take]
    simp only [Nat.min_self]

set_option maxRecDepth 100000 in
theorem c_cpR_bool_whole (xs : List (ElT .bool)) (m : Nat) (hm : m ≤ xs.length) (hl : m ≤ 4000000) : SpecD S 31 [.own .bool 0 0 m .whole] [.row .bool xs] (.imm .bool (xs.take m)) [.row .bool xs] := by
  have hx : (xs.drop 0).take m = xs.take m := by rw [List.drop_zero]
  have hxl : (xs.take m).length = m := by simp; omega
  refine specE ok sh31 rfl ?_
  conv => whnf
  refine ⟨by omega, rfl, ⟨by unfold maxLen; omega, by simp [S]; omega⟩, ?_⟩
  conv => whnf
  refine ⟨rfl, by omega, ?_⟩
  conv => whnf
  refine ⟨rfl, by simp, ?_⟩
  conv => whnf
  refine endL_of [0] [1] (by rfl) (by rfl) (by rfl) ⟨trivial, trivial⟩ ⟨rfl, ?_⟩ ⟨?_, rfl⟩
  · show 0 + (m : Int).toNat ≤ (List.take 0 (List.replicate (m : Int).toNat _) ++ List.take (m : Int).toNat (List.take m (List.drop 0 xs)) ++ List.drop (0 + min (List.take m (List.drop 0 xs)).length (m : Int).toNat) (List.replicate (m : Int).toNat _)).length
    rw [hx]; simp; omega
  · show (AV.imm .bool (((List.take 0 (List.replicate (m : Int).toNat _) ++ List.take (m : Int).toNat (List.take m (List.drop 0 xs)) ++ List.drop (0 + min (List.take m (List.drop 0 xs)).length (m : Int).toNat) (List.replicate (m : Int).toNat _)).drop 0).take (m : Int).toNat) : V) = _
    rw [hx, Int.toNat_natCast, hxl, Nat.min_self]
    simp
    rw [List.take_take, List.take_take]
    simp only [Nat.min_self]

set_option maxRecDepth 100000 in
theorem c_cpR_bool_full (xs : List (ElT .bool)) (m : Nat) (hm : m ≤ xs.length) (hl : m ≤ 4000000) : SpecD S 31 [.own .bool 0 0 m .full] [.row .bool xs] (.imm .bool (xs.take m)) [.row .bool xs] := by
  have hx : (xs.drop 0).take m = xs.take m := by rw [List.drop_zero]
  have hxl : (xs.take m).length = m := by simp; omega
  refine specE ok sh31 rfl ?_
  conv => whnf
  refine ⟨by omega, rfl, ⟨by unfold maxLen; omega, by simp [S]; omega⟩, ?_⟩
  conv => whnf
  refine ⟨rfl, by omega, ?_⟩
  conv => whnf
  refine ⟨rfl, by simp, ?_⟩
  conv => whnf
  refine endL_of [0] [1] (by rfl) (by rfl) (by rfl) ⟨trivial, trivial⟩ ⟨rfl, ?_⟩ ⟨?_, rfl⟩
  · show 0 + (m : Int).toNat ≤ (List.take 0 (List.replicate (m : Int).toNat _) ++ List.take (m : Int).toNat (List.take m (List.drop 0 xs)) ++ List.drop (0 + min (List.take m (List.drop 0 xs)).length (m : Int).toNat) (List.replicate (m : Int).toNat _)).length
    rw [hx]; simp; omega
  · show (AV.imm .bool (((List.take 0 (List.replicate (m : Int).toNat _) ++ List.take (m : Int).toNat (List.take m (List.drop 0 xs)) ++ List.drop (0 + min (List.take m (List.drop 0 xs)).length (m : Int).toNat) (List.replicate (m : Int).toNat _)).drop 0).take (m : Int).toNat) : V) = _
    rw [hx, Int.toNat_natCast, hxl, Nat.min_self]
    simp
    rw [List.take_take, List.take_take]
    simp only [Nat.min_self]

set_option maxRecDepth 100000 in
theorem c_cpN_vt : SpecD S 30 [.nils] [] (.imm .vt []) [] := by
  refine specE ok sh30 rfl ?_
  conv => whnf
  refine ⟨by decide, rfl, ⟨by decide, by decide⟩, ?_⟩
  conv => whnf
  refine ⟨rfl, by decide, ?_⟩
  conv => whnf
  exact endL_of [] [0] (by rfl) (by rfl) (by rfl) trivial ⟨rfl, by decide⟩ ⟨rfl, rfl⟩

set_option maxRecDepth 100000 in
theorem c_pushF_WA (f0 : El_frame) (m : Nat) (o1 : Int) (h1 : Nat) (i1 : Option (List El_vt)) (u1 : List El_vt) (s1 : List Bool) (d1 : Bool) : SpecD S 29 [.ptr 0 6, .agg (enc_frame (mkF o1 h1 i1 u1 s1 d1))] (ck l lo se re (.own .vt 4 0 m .whole) (.own .frame 5 0 1 .whole) op [f0]) (.tup []) [ckC l lo.length se.length re.length (.own .vt 4 0 m .whole) (.own .frame 6 0 2 .whole), .row .vt lo, .row .bool se, .row .vt re, .row .vt op, .gone, .row .frame [f0, (mkF o1 h1 i1 u1 s1 d1)]] := by
  cases i1
  · refine specE ok sh29 rfl ?_
    conv => whnf
    refine And.intro (by repeat first | exact trivial | refine And.intro (by first | rfl | exact trivial) ?_) ?_
    conv => whnf
    refine ⟨rfl, by simp, ?_⟩
    conv => whnf
    refine ⟨rfl, by simp, ⟨(by decide : 1 + 1 ≤ maxLen), (by decide : (1 + 1) * 96 ≤ 140737488355328)⟩, rfl, ?_⟩
    conv => whnf
    refine And.intro (by repeat first | exact trivial | refine And.intro (by first | rfl | exact trivial) ?_) ?_
    conv => whnf
    exact end_of [0, 1, 2, 3, 4, 5, 8] (by rfl) (by rfl) (by rfl) (by exact ⟨rfl, rfl⟩)
  · refine specE ok sh29 rfl ?_
    conv => whnf
    refine And.intro (by repeat first | exact trivial | refine And.intro (by first | rfl | exact trivial) ?_) ?_
    conv => whnf
    refine ⟨rfl, by simp, ?_⟩
    conv => whnf
    refine ⟨rfl, by simp, ⟨(by decide : 1 + 1 ≤ maxLen), (by decide : (1 + 1) * 96 ≤ 140737488355328)⟩, rfl, ?_⟩
    conv => whnf
    refine And.intro (by repeat first | exact trivial | refine And.intro (by first | rfl | exact trivial) ?_) ?_
    conv => whnf
    exact end_of [0, 1, 2, 3, 4, 5, 8] (by rfl) (by rfl) (by rfl) (by exact ⟨rfl, rfl⟩)

set_option maxRecDepth 100000 in
theorem c_pushF_FA (f0 : El_frame) (m : Nat) (o1 : Int) (h1 : Nat) (i1 : Option (List El_vt)) (u1 : List El_vt) (s1 : List Bool) (d1 : Bool) : SpecD S 29 [.ptr 0 6, .agg (enc_frame (mkF o1 h1 i1 u1 s1 d1))] (ck l lo se re (.own .vt 4 0 m .full) (.own .frame 5 0 1 .whole) op [f0]) (.tup []) [ckC l lo.length se.length re.length (.own .vt 4 0 m .full) (.own .frame 6 0 2 .whole), .row .vt lo, .row .bool se, .row .vt re, .row .vt op, .gone, .row .frame [f0, (mkF o1 h1 i1 u1 s1 d1)]] := by
  cases i1
  · refine specE ok sh29 rfl ?_
    conv => whnf
    refine And.intro (by repeat first | exact trivial | refine And.intro (by first | rfl | exact trivial) ?_) ?_
    conv => whnf
    refine ⟨rfl, by simp, ?_⟩
    conv => whnf
    refine ⟨rfl, by simp, ⟨(by decide : 1 + 1 ≤ maxLen), (by decide : (1 + 1) * 96 ≤ 140737488355328)⟩, rfl, ?_⟩
    conv => whnf
    refine And.intro (by repeat first | exact trivial | refine And.intro (by first | rfl | exact trivial) ?_) ?_
    conv => whnf
    exact end_of [0, 1, 2, 3, 4, 5, 8] (by rfl) (by rfl) (by rfl) (by exact ⟨rfl, rfl⟩)
  · refine specE ok sh29 rfl ?_
    conv => whnf
    refine And.intro (by repeat first | exact trivial | refine And.intro (by first | rfl | exact trivial) ?_) ?_
    conv => whnf
    refine ⟨rfl, by simp, ?_⟩
    conv => whnf
    refine ⟨rfl, by simp, ⟨(by decide : 1 + 1 ≤ maxLen), (by decide : (1 + 1) * 96 ≤ 140737488355328)⟩, rfl, ?_⟩
    conv => whnf
    refine And.intro (by repeat first | exact trivial | refine And.intro (by first | rfl | exact trivial) ?_) ?_
    conv => whnf
    exact end_of [0, 1, 2, 3, 4, 5, 8] (by rfl) (by rfl) (by rfl) (by exact ⟨rfl, rfl⟩)

set_option maxRecDepth 100000 in
theorem c_cutF_FB {f0 f1 : El_frame} (m : Nat) : SpecD S 32 [.ptr 0 6, .int .i64 1] (ck l lo se re (.own .vt 4 0 m .full) (.own .frame 5 0 2 .whole) op [f0, f1]) (.tup []) (ck l lo se re (.own .vt 4 0 m .full) (.own .frame 5 0 1 .full) op [f0, f1]) := by
  refine specE ok sh32 rfl ?_
  conv => whnf
  refine ⟨rfl, by decide, by decide, by decide, rfl, ?_⟩
  conv => whnf
  exact end_of [0, 1, 2, 3, 4, 5] (by rfl) (by rfl) (by rfl) (by exact ⟨rfl, rfl⟩)

set_option maxRecDepth 100000 in
theorem c_cutF_WB {f0 f1 : El_frame} (m : Nat) : SpecD S 32 [.ptr 0 6, .int .i64 1] (ck l lo se re (.own .vt 4 0 m .whole) (.own .frame 5 0 2 .whole) op [f0, f1]) (.tup []) (ck l lo se re (.own .vt 4 0 m .whole) (.own .frame 5 0 1 .full) op [f0, f1]) := by
  refine specE ok sh32 rfl ?_
  conv => whnf
  refine ⟨rfl, by decide, by decide, by decide, rfl, ?_⟩
  conv => whnf
  exact end_of [0, 1, 2, 3, 4, 5] (by rfl) (by rfl) (by rfl) (by exact ⟨rfl, rfl⟩)

set_option maxRecDepth 100000 in
theorem c_PopsE_WA {f0 : El_frame} (m : Nat) : SpecD S 9 [.ptr 0 0, .nils] (ck l lo se re (.own .vt 4 0 m .whole) (.own .frame 5 0 1 .whole) op [f0]) (.int .i64 0) (ck l lo se re (.own .vt 4 0 m .whole) (.own .frame 5 0 1 .whole) op [f0]) := by
  refine specE ok sh9 rfl ?_
  conv => whnf
  refine call_of [0, 1, 2, 3, 4, 5] (c_shut_WA m) (by rfl) (by rfl) ?_
  conv => whnf
  refine loop_of [] [0, 1, 2, 3, 4, 5, 6] (fun vs H => vs = [.ptr 0 0, .nils, .ptr 6 0, .int .i64 (-1)] ∧ H = (ck l lo se re (.own .vt 4 0 m .whole) (.own .frame 5 0 1 .whole) op [f0]) ++ [.cells [.own .vt 4 0 m .whole]])
    (fun vs _ => 0) (by rfl) (by rfl) (by rfl) (by rfl) ⟨rfl, rfl⟩ ?_
  rintro vs H1 ⟨rfl, rfl⟩
  conv => whnf
  exact end_of [0, 1, 2, 3, 4, 5] (by rfl) (by rfl) (by rfl) (by exact ⟨rfl, rfl⟩)

set_option maxRecDepth 100000 in
theorem c_PopsE_WB {f0 f1 : El_frame} (m : Nat) : SpecD S 9 [.ptr 0 0, (.imm .vt [])] (ck l lo se re (.own .vt 4 0 m .whole) (.own .frame 5 0 2 .whole) op [f0, f1]) (.int .i64 0) (ck l lo se re (.own .vt 4 0 m .whole) (.own .frame 5 0 2 .whole) op [f0, f1]) := by
  refine specE ok sh9 rfl ?_
  conv => whnf
  refine call_of [0, 1, 2, 3, 4, 5] (c_shut_WB m) (by rfl) (by rfl) ?_
  conv => whnf
  refine loop_of [] [0, 1, 2, 3, 4, 5, 6] (fun vs H => vs = [.ptr 0 0, (.imm .vt []), .ptr 6 0, .int .i64 (-1)] ∧ H = (ck l lo se re (.own .vt 4 0 m .whole) (.own .frame 5 0 2 .whole) op [f0, f1]) ++ [.cells [.own .vt 4 0 m .whole]])
    (fun vs _ => 0) (by rfl) (by rfl) (by rfl) (by rfl) ⟨rfl, rfl⟩ ?_
  rintro vs H1 ⟨rfl, rfl⟩
  conv => whnf
  exact end_of [0, 1, 2, 3, 4, 5] (by rfl) (by rfl) (by rfl) (by exact ⟨rfl, rfl⟩)

set_option maxRecDepth 100000 in
theorem c_PushesN_WB {f0 f1 : El_frame} (m : Nat) : SpecD S 15 [.ptr 0 0, .nils] (ck l lo se re (.own .vt 4 0 m .whole) (.own .frame 5 0 2 .whole) op [f0, f1]) (.int .i64 0) (ck l lo se re (.own .vt 4 0 m .whole) (.own .frame 5 0 2 .whole) op [f0, f1]) := by
  refine specE ok sh15 rfl ?_
  conv => whnf
  refine call_of [0, 1, 2, 3, 4, 5] (c_shut_WB m) (by rfl) (by rfl) ?_
  conv => whnf
  refine loop_of [] [0, 1, 2, 3, 4, 5] (fun vs H => vs = [.ptr 0 0, .nils, .int .i64 0, .int .i64 0] ∧ H = (ck l lo se re (.own .vt 4 0 m .whole) (.own .frame 5 0 2 .whole) op [f0, f1]))
    (fun vs _ => 0) (by rfl) (by rfl) (by rfl) (by rfl) ⟨rfl, rfl⟩ ?_
  rintro vs H1 ⟨rfl, rfl⟩
  conv => whnf
  exact end_of [0, 1, 2, 3, 4, 5] (by rfl) (by rfl) (by rfl) (by exact ⟨rfl, rfl⟩)

set_option maxRecDepth 100000 in
theorem c_Enter_FA0 (w : Int) (o0 : Int) (h0 : Nat) (i0 : Option (List El_vt)) (u0 : List El_vt) (s0 : List Bool) (b : List El_vt) (hb : b.length ≤ 1048576) (hh : h0 ≤ op.length) (hl : h0 ≤ 2000000) (hs : se.length ≤ 4000000) : SpecD S 11 [.ptr 0 0, .int .i64 w, .imm .vt [], .imm .vt b] (ck l lo se re (.own .vt 4 0 h0 .full) (.own .frame 5 0 1 .whole) op [(mkF o0 h0 i0 u0 s0 true)]) (.int .i64 0) [ckC l lo.length se.length re.length (.own .vt 4 0 h0 .full) (.own .frame 6 0 2 .whole), .row .vt lo, .row .bool se, .row .vt re, .row .vt op, .gone, .row .frame [(mkF o0 h0 i0 u0 s0 true), (mkF w h0 (some []) b se false)]] := by
  refine specE ok sh11 rfl ?_
  conv => whnf
  refine call_of [0, 1, 2, 3, 4, 5] (c_Pops_FA o0 h0 i0 u0 s0 [] (by decide)) (by rfl) (by rfl) ?_
  conv => whnf
  refine call_of [] (c_cpI_vt [] (by decide)) (by rfl) (by rfl) ?_
  conv => whnf
  refine And.intro (by repeat first | exact trivial | refine And.intro (by first | rfl | exact trivial) ?_) ?_
  conv => whnf
  refine call_of [] (c_cpI_vt b hb) (by rfl) (by rfl) ?_
  conv => whnf
  refine And.intro (by repeat first | exact trivial | refine And.intro (by first | rfl | exact trivial) ?_) ?_
  conv => whnf
  refine call_of [0, 1, 2, 3, 4, 5] (c_sizeV_FA h0) (by rfl) (by rfl) ?_
  conv => whnf
  refine And.intro (by repeat first | exact trivial | refine And.intro (by first | rfl | exact trivial) ?_) ?_
  conv => whnf
  refine call_of [2] (c_cpR_bool_whole se se.length (Nat.le_refl _) hs) (by rfl) (by rfl) ?_
  conv => whnf
  rw [List.take_length]
  refine And.intro (by repeat first | exact trivial | refine And.intro (by first | rfl | exact trivial) ?_) ?_
  conv => whnf
  refine call_of [0, 1, 2, 3, 4, 5] (c_pushF_FA (mkF o0 h0 i0 u0 s0 true) h0 w h0 (some []) b se false) (by rfl) (by rfl) ?_
  conv => whnf
  refine call_of [0, 1, 2, 3, 4, 6] ((c_Pushes_FB (f0 := (mkF o0 h0 i0 u0 s0 true)) (f1 := (mkF w h0 (some []) b se false)) h0 [] hh hl (by decide)).1 rfl) (by rfl) (by rfl) ?_
  conv => whnf
  exact end_of [0, 1, 2, 3, 4, 5, 6] (by rfl) (by rfl) (by rfl) (by exact ⟨rfl, rfl⟩)

set_option maxRecDepth 100000 in
theorem c_Enter_FA1 (w : Int) (o0 : Int) (h0 : Nat) (i0 : Option (List El_vt)) (u0 : List El_vt) (s0 : List Bool) (a b : List El_vt) (ha : a.length ≤ 1048576) (hb : b.length ≤ 1048576) (hh : h0 ≤ op.length) (hl : h0 ≤ 2000000) (hs : se.length ≤ 4000000) (hne : a ≠ []) : SpecD S 11 [.ptr 0 0, .int .i64 w, .imm .vt a, .imm .vt b] (ck l lo se re (.own .vt 4 0 h0 .full) (.own .frame 5 0 1 .whole) op [(mkF o0 h0 i0 u0 s0 true)]) (.int .i64 0) [ckC l lo.length se.length re.length (.own .vt 7 0 (op.take h0 ++ a).length .whole) (.own .frame 6 0 2 .whole), .row .vt lo, .row .bool se, .row .vt re, .row .vt op, .gone, .row .frame [(mkF o0 h0 i0 u0 s0 true), (mkF w h0 (some a) b se false)], .row .vt (op.take h0 ++ a)] := by
  refine specE ok sh11 rfl ?_
  conv => whnf
  refine call_of [0, 1, 2, 3, 4, 5] (c_Pops_FA o0 h0 i0 u0 s0 a ha) (by rfl) (by rfl) ?_
  conv => whnf
  refine call_of [] (c_cpI_vt a ha) (by rfl) (by rfl) ?_
  conv => whnf
  refine And.intro (by repeat first | exact trivial | refine And.intro (by first | rfl | exact trivial) ?_) ?_
  conv => whnf
  refine call_of [] (c_cpI_vt b hb) (by rfl) (by rfl) ?_
  conv => whnf
  refine And.intro (by repeat first | exact trivial | refine And.intro (by first | rfl | exact trivial) ?_) ?_
  conv => whnf
  refine call_of [0, 1, 2, 3, 4, 5] (c_sizeV_FA h0) (by rfl) (by rfl) ?_
  conv => whnf
  refine And.intro (by repeat first | exact trivial | refine And.intro (by first | rfl | exact trivial) ?_) ?_
  conv => whnf
  refine call_of [2] (c_cpR_bool_whole se se.length (Nat.le_refl _) hs) (by rfl) (by rfl) ?_
  conv => whnf
  rw [List.take_length]
  refine And.intro (by repeat first | exact trivial | refine And.intro (by first | rfl | exact trivial) ?_) ?_
  conv => whnf
  refine call_of [0, 1, 2, 3, 4, 5] (c_pushF_FA (mkF o0 h0 i0 u0 s0 true) h0 w h0 (some a) b se false) (by rfl) (by rfl) ?_
  conv => whnf
  refine call_of [0, 1, 2, 3, 4, 6] ((c_Pushes_FB (f0 := (mkF o0 h0 i0 u0 s0 true)) (f1 := (mkF w h0 (some a) b se false)) h0 a hh hl ha).2 hne) (by rfl) (by rfl) ?_
  conv => whnf
  exact end_of [0, 1, 2, 3, 4, 5, 6, 7] (by rfl) (by rfl) (by rfl) (by exact ⟨rfl, rfl⟩)

set_option maxRecDepth 100000 in
theorem c_EnterN_WA (w : Int) (f0 : El_frame) (m : Nat) (hs : se.length ≤ 4000000) : SpecD S 11 [.ptr 0 0, .int .i64 w, .nils, .nils] (ck l lo se re (.own .vt 4 0 m .whole) (.own .frame 5 0 1 .whole) op [f0]) (.int .i64 0) [ckC l lo.length se.length re.length (.own .vt 4 0 m .whole) (.own .frame 6 0 2 .whole), .row .vt lo, .row .bool se, .row .vt re, .row .vt op, .gone, .row .frame [f0, (mkF w m (some []) [] se false)]] := by
  refine specE ok sh11 rfl ?_
  conv => whnf
  refine call_of [0, 1, 2, 3, 4, 5] (c_PopsE_WA m) (by rfl) (by rfl) ?_
  conv => whnf
  refine call_of [] (c_cpN_vt) (by rfl) (by rfl) ?_
  conv => whnf
  refine And.intro (by repeat first | exact trivial | refine And.intro (by first | rfl | exact trivial) ?_) ?_
  conv => whnf
  refine call_of [] (c_cpN_vt) (by rfl) (by rfl) ?_
  conv => whnf
  refine And.intro (by repeat first | exact trivial | refine And.intro (by first | rfl | exact trivial) ?_) ?_
  conv => whnf
  refine call_of [0, 1, 2, 3, 4, 5] (c_sizeV_WA m) (by rfl) (by rfl) ?_
  conv => whnf
  refine And.intro (by repeat first | exact trivial | refine And.intro (by first | rfl | exact trivial) ?_) ?_
  conv => whnf
  refine call_of [2] (c_cpR_bool_whole se se.length (Nat.le_refl _) hs) (by rfl) (by rfl) ?_
  conv => whnf
  rw [List.take_length]
  refine And.intro (by repeat first | exact trivial | refine And.intro (by first | rfl | exact trivial) ?_) ?_
  conv => whnf
  refine call_of [0, 1, 2, 3, 4, 5] (c_pushF_WA f0 m w m (some []) [] se false) (by rfl) (by rfl) ?_
  conv => whnf
  refine call_of [0, 1, 2, 3, 4, 6] (c_PushesN_WB (f0 := f0) (f1 := (mkF w m (some []) [] se false)) m) (by rfl) (by rfl) ?_
  conv => whnf
  exact end_of [0, 1, 2, 3, 4, 5, 6] (by rfl) (by rfl) (by rfl) (by exact ⟨rfl, rfl⟩)

set_option maxRecDepth 100000 in
theorem c_Leave_FB (f0 : El_frame) (o1 : Int) (h1 : Nat) (a b : List El_vt) (s1 : List Bool) (ha : a.length ≤ 1048576) (hb : b.length ≤ 1048576) (hs : s1.length ≤ 4000000) : SpecD S 12 [.ptr 0 0] (ck l lo se re (.own .vt 4 0 h1 .full) (.own .frame 5 0 2 .whole) op [f0, (mkF o1 h1 (some a) b s1 true)]) (.tup [.int .i64 o1, .imm .vt a, .imm .vt b, .int .i64 0]) [.cells [.bool true, .imm .grp l, .own .vt 1 0 lo.length .whole, .own .bool 6 0 s1.length .whole, .own .vt 3 0 re.length .whole, .own .vt 4 0 h1 .full, .own .frame 5 0 1 .full], .row .vt lo, .row .bool se, .row .vt re, .row .vt op, .row .frame [f0, (mkF o1 h1 (some a) b s1 true)], .row .bool s1] := by
  refine specE ok sh12 rfl ?_
  conv => whnf
  refine call_of [0, 1, 2, 3, 4, 5] (c_shut_FB h1) (by rfl) (by rfl) ?_
  conv => whnf
  refine call_of [0, 1, 2, 3, 4, 5] (c_top_FB h1) (by rfl) (by rfl) ?_
  conv => whnf
  refine ⟨rfl, by simp, (by decide : 0 + 6 ≤ 6), ?_⟩
  conv => whnf
  refine call_of [0, 1, 2, 3, 4, 5] (c_Pops_FB f0 o1 h1 (some a) b s1 b hb) (by rfl) (by rfl) ?_
  conv => whnf
  refine call_of [0, 1, 2, 3, 4, 5] (c_sizeV_FB h1) (by rfl) (by rfl) ?_
  conv => whnf
  refine And.intro (by repeat first | exact trivial | refine And.intro (by first | rfl | exact trivial) ?_) ?_
  conv => whnf
  have hq : ((h1 : Int) != (List.getD [f0, (mkF o1 h1 (some a) b s1 true)] 1 (S.zero .frame)).height) = false := by show ((h1 : Int) != (h1 : Int)) = false; simp
  rw [hq]
  conv => whnf
  refine call_of [0, 1, 2, 3, 4, 5] (c_sizeF_FB h1) (by rfl) (by rfl) ?_
  conv => whnf
  refine And.intro (by repeat first | exact trivial | refine And.intro (by first | rfl | exact trivial) ?_) ?_
  conv => whnf
  refine call_of [0, 1, 2, 3, 4, 5] (c_cutF_FB h1) (by rfl) (by rfl) ?_
  conv => whnf
  refine call_of [] (c_cpO_bool s1 hs) (by rfl) (by rfl) ?_
  conv => whnf
  refine call_of [] (c_cpI_vt a ha) (by rfl) (by rfl) ?_
  conv => whnf
  refine And.intro (by repeat first | exact trivial | refine And.intro (by first | rfl | exact trivial) ?_) ?_
  conv => whnf
  refine call_of [] (c_cpI_vt b hb) (by rfl) (by rfl) ?_
  conv => whnf
  refine And.intro (by repeat first | exact trivial | refine And.intro (by first | rfl | exact trivial) ?_) ?_
  conv => whnf
  exact end_of [0, 1, 2, 3, 4, 5, 8] (by rfl) (by rfl) (by rfl) (by exact ⟨rfl, rfl⟩)

set_option maxRecDepth 100000 in
theorem c_Leave_WB (f0 : El_frame) (o1 : Int) (h1 : Nat) (a : List El_vt) (s1 : List Bool) (ha : a.length ≤ 1048576) (hs : s1.length ≤ 4000000) : SpecD S 12 [.ptr 0 0] (ck l lo se re (.own .vt 4 0 h1 .whole) (.own .frame 5 0 2 .whole) op [f0, (mkF o1 h1 (some a) [] s1 false)]) (.tup [.int .i64 o1, .imm .vt a, .imm .vt [], .int .i64 0]) [.cells [.bool true, .imm .grp l, .own .vt 1 0 lo.length .whole, .own .bool 6 0 s1.length .whole, .own .vt 3 0 re.length .whole, .own .vt 4 0 h1 .whole, .own .frame 5 0 1 .full], .row .vt lo, .row .bool se, .row .vt re, .row .vt op, .row .frame [f0, (mkF o1 h1 (some a) [] s1 false)], .row .bool s1] := by
  refine specE ok sh12 rfl ?_
  conv => whnf
  refine call_of [0, 1, 2, 3, 4, 5] (c_shut_WB h1) (by rfl) (by rfl) ?_
  conv => whnf
  refine call_of [0, 1, 2, 3, 4, 5] (c_top_WB h1) (by rfl) (by rfl) ?_
  conv => whnf
  refine ⟨rfl, by simp, (by decide : 0 + 6 ≤ 6), ?_⟩
  conv => whnf
  refine call_of [0, 1, 2, 3, 4, 5] (c_PopsE_WB h1) (by rfl) (by rfl) ?_
  conv => whnf
  refine call_of [0, 1, 2, 3, 4, 5] (c_sizeV_WB h1) (by rfl) (by rfl) ?_
  conv => whnf
  refine And.intro (by repeat first | exact trivial | refine And.intro (by first | rfl | exact trivial) ?_) ?_
  conv => whnf
  have hq : ((h1 : Int) != (List.getD [f0, (mkF o1 h1 (some a) [] s1 false)] 1 (S.zero .frame)).height) = false := by show ((h1 : Int) != (h1 : Int)) = false; simp
  rw [hq]
  conv => whnf
  refine call_of [0, 1, 2, 3, 4, 5] (c_sizeF_WB h1) (by rfl) (by rfl) ?_
  conv => whnf
  refine And.intro (by repeat first | exact trivial | refine And.intro (by first | rfl | exact trivial) ?_) ?_
  conv => whnf
  refine call_of [0, 1, 2, 3, 4, 5] (c_cutF_WB h1) (by rfl) (by rfl) ?_
  conv => whnf
  refine call_of [] (c_cpO_bool s1 hs) (by rfl) (by rfl) ?_
  conv => whnf
  refine call_of [] (c_cpI_vt a ha) (by rfl) (by rfl) ?_
  conv => whnf
  refine And.intro (by repeat first | exact trivial | refine And.intro (by first | rfl | exact trivial) ?_) ?_
  conv => whnf
  refine call_of [] (c_cpI_vt [] (by decide)) (by rfl) (by rfl) ?_
  conv => whnf
  refine And.intro (by repeat first | exact trivial | refine And.intro (by first | rfl | exact trivial) ?_) ?_
  conv => whnf
  exact end_of [0, 1, 2, 3, 4, 5, 8] (by rfl) (by rfl) (by rfl) (by exact ⟨rfl, rfl⟩)

set_option maxRecDepth 100000 in
theorem c_Operands_WC {f0 f1 : El_frame} (m : Nat) (hm : m ≤ op.length) (hl : m ≤ 4000000) : SpecD S 18 [.ptr 0 0] (ck l lo se re (.own .vt 4 0 m .whole) (.own .frame 5 0 1 .full) op [f0, f1]) (.imm .vt (op.take m)) (ck l lo se re (.own .vt 4 0 m .whole) (.own .frame 5 0 1 .full) op [f0, f1]) := by
  refine specE ok sh18 rfl ?_
  conv => whnf
  refine call_of [0, 1, 2, 3, 4, 5] (c_none_WC m) (by rfl) (by rfl) ?_
  conv => whnf
  refine call_of [4] (c_cpR_vt_whole op m hm hl) (by rfl) (by rfl) ?_
  conv => whnf
  exact end_of [0, 1, 2, 3, 4, 5] (by rfl) (by rfl) (by rfl) (by exact ⟨rfl, rfl⟩)

theorem wrap_u64 {n : Int} (h0 : 0 ≤ n) (h1 : n ≤ 18446744073709551615) : IntKind.u64.wrap n = n := IntWalk.u64_in _ ⟨h0, h1⟩
def gtE (lo : List El_vt) (se : List Bool) (n : Nat) : Int := if n < lo.length then (if se.getD n false = true then 0 else 134) else 1
def gtT (lo : List El_vt) (se : List Bool) (n : Nat) : El_vt := if n < lo.length then (if se.getD n false = true then lo.getD n zvt else zvt) else zvt

set_option maxRecDepth 100000 in
theorem c_Local_WA1 {f0 : El_frame} (m n : Nat) (hn : n ≤ 4294967295) (hl : lo.length ≤ 4000000) (hlt : n < lo.length) : SpecD S 34 [.ptr 0 0, .int .u32 n] (ck l lo se re (.own .vt 4 0 m .whole) (.own .frame 5 0 1 .whole) op [f0]) (.tup [.agg (enc_vt (lo.getD n zvt)), .int .i64 0]) (ck l lo se re (.own .vt 4 0 m .whole) (.own .frame 5 0 1 .whole) op [f0]) := by
  refine specE ok sh34 rfl ?_
  conv => whnf
  refine call_of [0, 1, 2, 3, 4, 5] (c_none_WA m) (by rfl) (by rfl) ?_
  conv => whnf
  rw [wrap_u64 (n := (lo.length : Int)) (by omega) (by omega), wrap_u64 (n := (n : Int)) (by omega) (by omega), show decide ((lo.length : Int) ≤ n) = false from decide_eq_false (by omega)]
  conv => whnf
  refine ⟨rfl, by omega, by omega, ?_⟩
  conv => whnf
  refine ⟨rfl, by omega, (by decide : 0 + 3 ≤ 3), ?_⟩
  rw [show lo.getD (0 + Int.toNat (n : Int)) (S.zero .vt) = lo.getD n zvt by rw [Nat.zero_add, Int.toNat_natCast]; rfl]
  generalize lo.getD n zvt = y
  conv => whnf
  exact end_of [0, 1, 2, 3, 4, 5] (by rfl) (by rfl) (by rfl) (by exact ⟨rfl, rfl⟩)

set_option maxRecDepth 100000 in
theorem c_Local_WA0 {f0 : El_frame} (m n : Nat) (hn : n ≤ 4294967295) (hl : lo.length ≤ 4000000) (hge : lo.length ≤ n) : SpecD S 34 [.ptr 0 0, .int .u32 n] (ck l lo se re (.own .vt 4 0 m .whole) (.own .frame 5 0 1 .whole) op [f0]) (.tup [.agg (enc_vt zvt), .int .i64 1]) (ck l lo se re (.own .vt 4 0 m .whole) (.own .frame 5 0 1 .whole) op [f0]) := by
  refine specE ok sh34 rfl ?_
  conv => whnf
  refine call_of [0, 1, 2, 3, 4, 5] (c_none_WA m) (by rfl) (by rfl) ?_
  conv => whnf
  rw [wrap_u64 (n := (lo.length : Int)) (by omega) (by omega), wrap_u64 (n := (n : Int)) (by omega) (by omega), show decide ((lo.length : Int) ≤ n) = true from decide_eq_true (by omega)]
  conv => whnf
  exact end_of [0, 1, 2, 3, 4, 5] (by rfl) (by rfl) (by rfl) (by exact ⟨rfl, rfl⟩)

set_option maxRecDepth 100000 in
theorem c_Get_WA {f0 : El_frame} (m n : Nat) (hn : n ≤ 4294967295) (hl : lo.length ≤ 4000000) (hs : se.length = lo.length) : SpecD S 16 [.ptr 0 0, .int .u32 n] (ck l lo se re (.own .vt 4 0 m .whole) (.own .frame 5 0 1 .whole) op [f0]) (.tup [.agg (enc_vt (gtT lo se n)), .int .i64 (gtE lo se n)]) (ck l lo se re (.own .vt 4 0 m .whole) (.own .frame 5 0 1 .whole) op [f0]) := by
  rcases Nat.lt_or_ge n lo.length with hlt | hge
  · rw [gtT, gtE, if_pos hlt, if_pos hlt]
    have hg : se.getD (0 + Int.toNat (n : Int)) (S.zero .bool) = se.getD n false := by rw [Nat.zero_add, Int.toNat_natCast]; rfl
    refine specE ok sh16 rfl ?_
    conv => whnf
    refine call_of [0, 1, 2, 3, 4, 5] (c_Local_WA1 m n hn hl hlt) (by rfl) (by rfl) ?_
    conv => whnf
    refine ⟨rfl, by omega, by omega, ?_⟩
    conv => whnf
    refine ⟨rfl, by omega, (by decide : 0 + 1 ≤ 1), ?_⟩
    rw [hg]
    cases hb : se.getD n false
    · rw [if_neg (show ¬ (false = true) by simp), if_neg (show ¬ (false = true) by simp)]
      conv => whnf
      exact end_of [0, 1, 2, 3, 4, 5] (by rfl) (by rfl) (by rfl) (by exact ⟨rfl, rfl⟩)
    · rw [if_pos (show true = true from rfl), if_pos (show true = true from rfl)]
      conv => whnf
      exact end_of [0, 1, 2, 3, 4, 5] (by rfl) (by rfl) (by rfl) (by exact ⟨rfl, rfl⟩)
  · rw [gtT, gtE, if_neg (by omega), if_neg (by omega)]
    refine specE ok sh16 rfl ?_
    conv => whnf
    refine call_of [0, 1, 2, 3, 4, 5] (c_Local_WA0 m n hn hl hge) (by rfl) (by rfl) ?_
    conv => whnf
    exact end_of [0, 1, 2, 3, 4, 5] (by rfl) (by rfl) (by rfl) (by exact ⟨rfl, rfl⟩)

set_option maxRecDepth 100000 in
theorem c_Local_WB1 {f0 f1 : El_frame} (m n : Nat) (hn : n ≤ 4294967295) (hl : lo.length ≤ 4000000) (hlt : n < lo.length) : SpecD S 34 [.ptr 0 0, .int .u32 n] (ck l lo se re (.own .vt 4 0 m .whole) (.own .frame 5 0 2 .whole) op [f0, f1]) (.tup [.agg (enc_vt (lo.getD n zvt)), .int .i64 0]) (ck l lo se re (.own .vt 4 0 m .whole) (.own .frame 5 0 2 .whole) op [f0, f1]) := by
  refine specE ok sh34 rfl ?_
  conv => whnf
  refine call_of [0, 1, 2, 3, 4, 5] (c_none_WB m) (by rfl) (by rfl) ?_
  conv => whnf
  rw [wrap_u64 (n := (lo.length : Int)) (by omega) (by omega), wrap_u64 (n := (n : Int)) (by omega) (by omega), show decide ((lo.length : Int) ≤ n) = false from decide_eq_false (by omega)]
  conv => whnf
  refine ⟨rfl, by omega, by omega, ?_⟩
  conv => whnf
  refine ⟨rfl, by omega, (by decide : 0 + 3 ≤ 3), ?_⟩
  rw [show lo.getD (0 + Int.toNat (n : Int)) (S.zero .vt) = lo.getD n zvt by rw [Nat.zero_add, Int.toNat_natCast]; rfl]
  generalize lo.getD n zvt = y
  conv => whnf
  exact end_of [0, 1, 2, 3, 4, 5] (by rfl) (by rfl) (by rfl) (by exact ⟨rfl, rfl⟩)

set_option maxRecDepth 100000 in
theorem c_Local_WB0 {f0 f1 : El_frame} (m n : Nat) (hn : n ≤ 4294967295) (hl : lo.length ≤ 4000000) (hge : lo.length ≤ n) : SpecD S 34 [.ptr 0 0, .int .u32 n] (ck l lo se re (.own .vt 4 0 m .whole) (.own .frame 5 0 2 .whole) op [f0, f1]) (.tup [.agg (enc_vt zvt), .int .i64 1]) (ck l lo se re (.own .vt 4 0 m .whole) (.own .frame 5 0 2 .whole) op [f0, f1]) := by
  refine specE ok sh34 rfl ?_
  conv => whnf
  refine call_of [0, 1, 2, 3, 4, 5] (c_none_WB m) (by rfl) (by rfl) ?_
  conv => whnf
  rw [wrap_u64 (n := (lo.length : Int)) (by omega) (by omega), wrap_u64 (n := (n : Int)) (by omega) (by omega), show decide ((lo.length : Int) ≤ n) = true from decide_eq_true (by omega)]
  conv => whnf
  exact end_of [0, 1, 2, 3, 4, 5] (by rfl) (by rfl) (by rfl) (by exact ⟨rfl, rfl⟩)

set_option maxRecDepth 100000 in
theorem c_Get_WB {f0 f1 : El_frame} (m n : Nat) (hn : n ≤ 4294967295) (hl : lo.length ≤ 4000000) (hs : se.length = lo.length) : SpecD S 16 [.ptr 0 0, .int .u32 n] (ck l lo se re (.own .vt 4 0 m .whole) (.own .frame 5 0 2 .whole) op [f0, f1]) (.tup [.agg (enc_vt (gtT lo se n)), .int .i64 (gtE lo se n)]) (ck l lo se re (.own .vt 4 0 m .whole) (.own .frame 5 0 2 .whole) op [f0, f1]) := by
  rcases Nat.lt_or_ge n lo.length with hlt | hge
  · rw [gtT, gtE, if_pos hlt, if_pos hlt]
    have hg : se.getD (0 + Int.toNat (n : Int)) (S.zero .bool) = se.getD n false := by rw [Nat.zero_add, Int.toNat_natCast]; rfl
    refine specE ok sh16 rfl ?_
    conv => whnf
    refine call_of [0, 1, 2, 3, 4, 5] (c_Local_WB1 m n hn hl hlt) (by rfl) (by rfl) ?_
    conv => whnf
    refine ⟨rfl, by omega, by omega, ?_⟩
    conv => whnf
    refine ⟨rfl, by omega, (by decide : 0 + 1 ≤ 1), ?_⟩
    rw [hg]
    cases hb : se.getD n false
    · rw [if_neg (show ¬ (false = true) by simp), if_neg (show ¬ (false = true) by simp)]
      conv => whnf
      exact end_of [0, 1, 2, 3, 4, 5] (by rfl) (by rfl) (by rfl) (by exact ⟨rfl, rfl⟩)
    · rw [if_pos (show true = true from rfl), if_pos (show true = true from rfl)]
      conv => whnf
      exact end_of [0, 1, 2, 3, 4, 5] (by rfl) (by rfl) (by rfl) (by exact ⟨rfl, rfl⟩)
  · rw [gtT, gtE, if_neg (by omega), if_neg (by omega)]
    refine specE ok sh16 rfl ?_
    conv => whnf
    refine call_of [0, 1, 2, 3, 4, 5] (c_Local_WB0 m n hn hl hge) (by rfl) (by rfl) ?_
    conv => whnf
    exact end_of [0, 1, 2, 3, 4, 5] (by rfl) (by rfl) (by rfl) (by exact ⟨rfl, rfl⟩)

set_option maxRecDepth 100000 in
theorem c_Local_WC1 {f0 f1 : El_frame} (m n : Nat) (hn : n ≤ 4294967295) (hl : lo.length ≤ 4000000) (hlt : n < lo.length) : SpecD S 34 [.ptr 0 0, .int .u32 n] (ck l lo se re (.own .vt 4 0 m .whole) (.own .frame 5 0 1 .full) op [f0, f1]) (.tup [.agg (enc_vt (lo.getD n zvt)), .int .i64 0]) (ck l lo se re (.own .vt 4 0 m .whole) (.own .frame 5 0 1 .full) op [f0, f1]) := by
  refine specE ok sh34 rfl ?_
  conv => whnf
  refine call_of [0, 1, 2, 3, 4, 5] (c_none_WC m) (by rfl) (by rfl) ?_
  conv => whnf
  rw [wrap_u64 (n := (lo.length : Int)) (by omega) (by omega), wrap_u64 (n := (n : Int)) (by omega) (by omega), show decide ((lo.length : Int) ≤ n) = false from decide_eq_false (by omega)]
  conv => whnf
  refine ⟨rfl, by omega, by omega, ?_⟩
  conv => whnf
  refine ⟨rfl, by omega, (by decide : 0 + 3 ≤ 3), ?_⟩
  rw [show lo.getD (0 + Int.toNat (n : Int)) (S.zero .vt) = lo.getD n zvt by rw [Nat.zero_add, Int.toNat_natCast]; rfl]
  generalize lo.getD n zvt = y
  conv => whnf
  exact end_of [0, 1, 2, 3, 4, 5] (by rfl) (by rfl) (by rfl) (by exact ⟨rfl, rfl⟩)

set_option maxRecDepth 100000 in
theorem c_Local_WC0 {f0 f1 : El_frame} (m n : Nat) (hn : n ≤ 4294967295) (hl : lo.length ≤ 4000000) (hge : lo.length ≤ n) : SpecD S 34 [.ptr 0 0, .int .u32 n] (ck l lo se re (.own .vt 4 0 m .whole) (.own .frame 5 0 1 .full) op [f0, f1]) (.tup [.agg (enc_vt zvt), .int .i64 1]) (ck l lo se re (.own .vt 4 0 m .whole) (.own .frame 5 0 1 .full) op [f0, f1]) := by
  refine specE ok sh34 rfl ?_
  conv => whnf
  refine call_of [0, 1, 2, 3, 4, 5] (c_none_WC m) (by rfl) (by rfl) ?_
  conv => whnf
  rw [wrap_u64 (n := (lo.length : Int)) (by omega) (by omega), wrap_u64 (n := (n : Int)) (by omega) (by omega), show decide ((lo.length : Int) ≤ n) = true from decide_eq_true (by omega)]
  conv => whnf
  exact end_of [0, 1, 2, 3, 4, 5] (by rfl) (by rfl) (by rfl) (by exact ⟨rfl, rfl⟩)

set_option maxRecDepth 100000 in
theorem c_Get_WC {f0 f1 : El_frame} (m n : Nat) (hn : n ≤ 4294967295) (hl : lo.length ≤ 4000000) (hs : se.length = lo.length) : SpecD S 16 [.ptr 0 0, .int .u32 n] (ck l lo se re (.own .vt 4 0 m .whole) (.own .frame 5 0 1 .full) op [f0, f1]) (.tup [.agg (enc_vt (gtT lo se n)), .int .i64 (gtE lo se n)]) (ck l lo se re (.own .vt 4 0 m .whole) (.own .frame 5 0 1 .full) op [f0, f1]) := by
  rcases Nat.lt_or_ge n lo.length with hlt | hge
  · rw [gtT, gtE, if_pos hlt, if_pos hlt]
    have hg : se.getD (0 + Int.toNat (n : Int)) (S.zero .bool) = se.getD n false := by rw [Nat.zero_add, Int.toNat_natCast]; rfl
    refine specE ok sh16 rfl ?_
    conv => whnf
    refine call_of [0, 1, 2, 3, 4, 5] (c_Local_WC1 m n hn hl hlt) (by rfl) (by rfl) ?_
    conv => whnf
    refine ⟨rfl, by omega, by omega, ?_⟩
    conv => whnf
    refine ⟨rfl, by omega, (by decide : 0 + 1 ≤ 1), ?_⟩
    rw [hg]
    cases hb : se.getD n false
    · rw [if_neg (show ¬ (false = true) by simp), if_neg (show ¬ (false = true) by simp)]
      conv => whnf
      exact end_of [0, 1, 2, 3, 4, 5] (by rfl) (by rfl) (by rfl) (by exact ⟨rfl, rfl⟩)
    · rw [if_pos (show true = true from rfl), if_pos (show true = true from rfl)]
      conv => whnf
      exact end_of [0, 1, 2, 3, 4, 5] (by rfl) (by rfl) (by rfl) (by exact ⟨rfl, rfl⟩)
  · rw [gtT, gtE, if_neg (by omega), if_neg (by omega)]
    refine specE ok sh16 rfl ?_
    conv => whnf
    refine call_of [0, 1, 2, 3, 4, 5] (c_Local_WC0 m n hn hl hge) (by rfl) (by rfl) ?_
    conv => whnf
    exact end_of [0, 1, 2, 3, 4, 5] (by rfl) (by rfl) (by rfl) (by exact ⟨rfl, rfl⟩)

set_option maxRecDepth 100000 in
theorem c_Set_WB1 {f0 f1 : El_frame} (m n : Nat) (hn : n ≤ 4294967295) (hl : lo.length ≤ 4000000) (hs : se.length = lo.length) (hlt : n < lo.length) : SpecD S 17 [.ptr 0 0, .int .u32 n] (ck l lo se re (.own .vt 4 0 m .whole) (.own .frame 5 0 2 .whole) op [f0, f1]) (.tup [.agg (enc_vt (lo.getD n zvt)), .int .i64 0]) (ck l lo (se.set n true) re (.own .vt 4 0 m .whole) (.own .frame 5 0 2 .whole) op [f0, f1]) := by
  refine specE ok sh17 rfl ?_
  conv => whnf
  refine call_of [0, 1, 2, 3, 4, 5] (c_Local_WB1 m n hn hl hlt) (by rfl) (by rfl) ?_
  conv => whnf
  refine ⟨rfl, by omega, by omega, ?_⟩
  conv => whnf
  refine ⟨rfl, by omega, (by decide : 0 + 1 ≤ 1), ?_⟩
  conv => whnf
  refine end_of [0, 1, 2, 3, 4, 5] (by rfl) (by rfl) (by rfl) ⟨rfl, ?_⟩
  show (ck l lo se re _ _ op _).set 2 (.row .bool (se.set (0 + Int.toNat (n : Int)) true)) = _
  unfold ck
  rw [Nat.zero_add, Int.toNat_natCast, List.length_set]
  rfl

set_option maxRecDepth 100000 in
theorem c_Set_WB0 {f0 f1 : El_frame} (m n : Nat) (hn : n ≤ 4294967295) (hl : lo.length ≤ 4000000) (hge : lo.length ≤ n) : SpecD S 17 [.ptr 0 0, .int .u32 n] (ck l lo se re (.own .vt 4 0 m .whole) (.own .frame 5 0 2 .whole) op [f0, f1]) (.tup [.agg (enc_vt zvt), .int .i64 1]) (ck l lo se re (.own .vt 4 0 m .whole) (.own .frame 5 0 2 .whole) op [f0, f1]) := by
  refine specE ok sh17 rfl ?_
  conv => whnf
  refine call_of [0, 1, 2, 3, 4, 5] (c_Local_WB0 m n hn hl hge) (by rfl) (by rfl) ?_
  conv => whnf
  exact end_of [0, 1, 2, 3, 4, 5] (by rfl) (by rfl) (by rfl) (by exact ⟨rfl, rfl⟩)

end Sh
end Go.Proofs.YtlnloekadohddaaDoor
