/- The other checker: made, never looked at. -/
import Derived.Test.YtlnloekadohddaaDoorSkH
namespace Go.Proofs.YtlnloekadohddaaDoor
open Go
namespace Sh


def rlV (l : List El_vt) (a : V) (j : Int) : List V := [.imm .vt l, a, .int .i64 j]

set_option maxRecDepth 100000 in
theorem c_rlist0 : SpecD S 37 [.imm .vt []] [] .nils [] := by
  refine specE ok sh37 rfl ?_
  conv => whnf
  refine loop_of [] [] (fun vs H => vs = rlV [] .nils 0 ∧ H = []) (fun vs _ => 0) (by rfl) (by rfl) (by rfl) (by rfl) ⟨rfl, rfl⟩ ?_
  rintro vs H1 ⟨rfl, rfl⟩
  conv => whnf
  exact end_of [] (by rfl) (by rfl) (by rfl) (by exact ⟨rfl, rfl⟩)

set_option maxRecDepth 100000 in
theorem c_rlist (l : List El_vt) (hl : l.length ≤ 1048576) (hne : l ≠ []) : SpecD S 37 [.imm .vt l] [] (.imm .vt l) [] := by
  have hl0 : 0 < l.length := List.length_pos_iff.2 hne
  refine specE ok sh37 rfl ?_
  conv => whnf
  refine loop_of [] [] (fun vs H => ∃ j : Nat, j ≤ l.length ∧ ((j = 0 ∧ vs = rlV l .nils 0 ∧ H = []) ∨ (0 < j ∧ vs = rlV l (.own .vt 0 0 (l.take j).length .whole) j ∧ H = [.row .vt (l.take j)])))
    (fun vs _ => match vs with | [_, _, .int _ j] => l.length - j.toNat | _ => 0) (by rfl) (by rfl) (by rfl) (by rfl) ⟨0, Nat.zero_le _, .inl ⟨rfl, rfl, rfl⟩⟩ ?_
  rintro vs H1 ⟨j, hj, ⟨rfl, rfl, rfl⟩ | ⟨hj0, rfl, rfl⟩⟩
  · conv => whnf
    cases hd : decide ((0 : Int) < l.length)
    · have := of_decide_eq_false hd
      omega
    conv => whnf
    have hy := getD_at hl0 (S.zero .vt)
    refine ⟨rfl, by omega, by omega, ?_⟩
    conv => whnf
    refine ⟨by show 0 < l.length; omega, by decide, ?_⟩
    rw [show Int.toNat (0 : Int) = 0 from rfl]
    generalize l.getD 0 (S.zero .vt) = y at hy
    conv => whnf
    refine ⟨rfl, by simp, ?_⟩
    conv => whnf
    refine ⟨⟨(by decide : 1 ≤ maxLen), (by decide : 1 * 24 ≤ 140737488355328)⟩, ?_⟩
    conv => whnf
    refine ⟨[1], [], relo_of [1] (by rfl) (by rfl), ?_⟩
    refine ⟨⟨1, by omega, .inr ⟨by omega, ?_, ?_⟩⟩, ?_⟩
    · rw [take_succ' hy]; rfl
    · rw [take_succ' hy]; rfl
    · show l.length - 1 < l.length - 0
      omega
  · conv => whnf
    cases hd : decide ((j : Int) < l.length)
    · conv => whnf
      have := of_decide_eq_false hd
      obtain rfl : j = l.length := by omega
      rw [List.take_length]
      refine endL_of [] [0] (by rfl) (by rfl) (by rfl) trivial ⟨rfl, by simp⟩ ⟨?_, rfl⟩
      show (AV.imm .vt ((l.drop 0).take l.length) : V) = _
      rw [drop_take]
    · conv => whnf
      have := of_decide_eq_true hd
      have hw : IntKind.i64.wrap ((j : Int) + 1) = ((j + 1 : Nat) : Int) := wrap_i64 (by omega) (by omega)
      have hy := getD_at (show j < l.length by omega) (S.zero .vt)
      refine ⟨rfl, by omega, by omega, ?_⟩
      conv => whnf
      refine ⟨by rw [Int.toNat_natCast]; omega, by decide, ?_⟩
      rw [Int.toNat_natCast]
      generalize l.getD j (S.zero .vt) = y at hy
      have ht : l.take (j + 1) = l.take j ++ [y] := take_succ' hy
      have htl : (l.take j).length = j := by simp; omega
      generalize l.take j = xs at ht htl
      conv => whnf
      refine ⟨rfl, by simp, ?_⟩
      conv => whnf
      refine ⟨rfl, by show 0 + xs.length ≤ xs.length; omega, ⟨by show xs.length + 1 ≤ maxLen; unfold maxLen; omega, by show (xs.length + 1) * 24 ≤ _; omega⟩, rfl, ?_⟩
      conv => whnf
      refine ⟨[2], [], relo_of [2] (by rfl) (by rfl), ?_⟩
      refine ⟨⟨j + 1, by omega, .inr ⟨by omega, ?_, ?_⟩⟩, ?_⟩
      · rw [ht, List.length_append, ← hw]; rfl
      · rw [ht]
        conv => rhs; rw [← List.take_length (l := xs)]
        rfl
      · show l.length - (IntKind.i64.wrap ((j : Int) + 1)).toNat < l.length - (j : Int).toNat
        rw [hw]; omega

theorem take_succB {l : List Bool} {j : Nat} {y : Bool} (h : l[j]? = some y) : l.take (j + 1) = l.take j ++ [y] := by rw [List.take_add_one, h]; rfl
def rfW (l : List Bool) (a : V) (j : Int) : List V := [.own .bool 0 0 l.length .whole, a, .int .i64 j]

set_option maxRecDepth 100000 in
theorem c_rflags0 : SpecD S 38 [.own .bool 0 0 0 .whole] [.row .bool []] .nils [.row .bool []] := by
  refine specE ok sh38 rfl ?_
  conv => whnf
  refine loop_of [] [0] (fun vs H => vs = rfW [] .nils 0 ∧ H = [.row .bool []]) (fun vs _ => 0) (by rfl) (by rfl) (by rfl) (by rfl) ⟨rfl, rfl⟩ ?_
  rintro vs H1 ⟨rfl, rfl⟩
  conv => whnf
  exact end_of [0] (by rfl) (by rfl) (by rfl) (by exact ⟨rfl, rfl⟩)

set_option maxRecDepth 100000 in
theorem c_rflags (l : List Bool) (hl : l.length ≤ 2097152) (hne : l ≠ []) : SpecD S 38 [.own .bool 0 0 l.length .whole] [.row .bool l] (.imm .bool l) [.row .bool l] := by
  have hl0 : 0 < l.length := List.length_pos_iff.2 hne
  refine specE ok sh38 rfl ?_
  conv => whnf
  refine loop_of [] [0] (fun vs H => ∃ j : Nat, j ≤ l.length ∧ ((j = 0 ∧ vs = rfW l .nils 0 ∧ H = [.row .bool l]) ∨ (0 < j ∧ vs = rfW l (.own .bool 1 0 (l.take j).length .whole) j ∧ H = [.row .bool l, .row .bool (l.take j)])))
    (fun vs _ => match vs with | [_, _, .int _ j] => l.length - j.toNat | _ => 0) (by rfl) (by rfl) (by rfl) (by rfl) ⟨0, Nat.zero_le _, .inl ⟨rfl, rfl, rfl⟩⟩ ?_
  rintro vs H1 ⟨j, hj, ⟨rfl, rfl, rfl⟩ | ⟨hj0, rfl, rfl⟩⟩
  · conv => whnf
    cases hd : decide ((0 : Int) < l.length)
    · have := of_decide_eq_false hd
      omega
    conv => whnf
    have hy := getD_at hl0 (S.zero .bool)
    refine ⟨rfl, by omega, by omega, ?_⟩
    conv => whnf
    refine ⟨rfl, by show 0 < l.length; omega, (by decide : 0 + 1 ≤ 1), ?_⟩
    rw [show l.getD (0 + Int.toNat (0 : Int)) (S.zero .bool) = l.getD 0 (S.zero .bool) from rfl]
    generalize l.getD 0 (S.zero .bool) = y at hy
    conv => whnf
    refine ⟨rfl, by simp, ?_⟩
    conv => whnf
    refine ⟨⟨(by decide : 1 ≤ maxLen), (by decide : 1 * 1 ≤ 140737488355328)⟩, ?_⟩
    conv => whnf
    refine ⟨[0, 2], [], relo_of [0, 2] (by rfl) (by rfl), ?_⟩
    refine ⟨⟨1, by omega, .inr ⟨by omega, ?_, ?_⟩⟩, ?_⟩
    · rw [take_succB hy]; rfl
    · rw [take_succB hy]; rfl
    · show l.length - 1 < l.length - 0
      omega
  · conv => whnf
    cases hd : decide ((j : Int) < l.length)
    · conv => whnf
      have := of_decide_eq_false hd
      obtain rfl : j = l.length := by omega
      rw [List.take_length]
      refine endL_of [0] [1] (by rfl) (by rfl) (by rfl) ⟨trivial, trivial⟩ ⟨rfl, by simp⟩ ⟨?_, rfl⟩
      show (AV.imm .bool ((l.drop 0).take l.length) : V) = _
      rw [drop_take]
    · conv => whnf
      have := of_decide_eq_true hd
      have hw : IntKind.i64.wrap ((j : Int) + 1) = ((j + 1 : Nat) : Int) := wrap_i64 (by omega) (by omega)
      have hy := getD_at (show j < l.length by omega) (S.zero .bool)
      refine ⟨rfl, by omega, by omega, ?_⟩
      conv => whnf
      refine ⟨rfl, by omega, (by decide : 0 + 1 ≤ 1), ?_⟩
      rw [show l.getD (0 + Int.toNat (j : Int)) (S.zero .bool) = l.getD j (S.zero .bool) by rw [Nat.zero_add, Int.toNat_natCast]]
      generalize l.getD j (S.zero .bool) = y at hy
      have ht : l.take (j + 1) = l.take j ++ [y] := take_succB hy
      have htl : (l.take j).length = j := by simp; omega
      generalize l.take j = xs at ht htl
      conv => whnf
      refine ⟨rfl, by simp, ?_⟩
      conv => whnf
      refine ⟨rfl, by show 0 + xs.length ≤ xs.length; omega, ⟨by show xs.length + 1 ≤ maxLen; unfold maxLen; omega, by show (xs.length + 1) * 1 ≤ _; omega⟩, rfl, ?_⟩
      conv => whnf
      refine ⟨[0, 3], [], relo_of [0, 3] (by rfl) (by rfl), ?_⟩
      refine ⟨⟨j + 1, by omega, .inr ⟨by omega, ?_, ?_⟩⟩, ?_⟩
      · rw [ht, List.length_append, ← hw]; rfl
      · rw [ht]
        conv => rhs; rw [← List.take_length (l := xs)]
        rfl
      · show l.length - (IntKind.i64.wrap ((j : Int) + 1)).toNat < l.length - (j : Int).toNat
        rw [hw]; omega

def rnV1 (ps ls rs : List El_vt) (j : Int) : List V := [.imm .vt ps, .imm .vt ls, .imm .vt rs, .ptr 0 0, .int .i64 j]
def rnV2 (ls rs : List El_vt) (j : Int) : List V := [.imm .vt ls, .imm .vt rs, .ptr 0 0, .int .i64 j]
def rnH (l : List El_grp) (R : V) (xs : List El_vt) (ys : List Bool) : Heap KT ElT := [.cells [.imm .grp l, .own .vt 1 0 xs.length .whole, .own .bool 2 0 ys.length .whole, .nils, .nils, R], .row .vt xs, .row .bool ys]

theorem rlistE (rs : List El_vt) (hr : rs.length ≤ 1048576) : ∃ o : Option (List El_vt), SpecD S 37 [.imm .vt rs] [] (slO .vt o) [] := by
  rcases Classical.em (rs = []) with rfl | h
  · exact ⟨none, c_rlist0⟩
  · exact ⟨some rs, c_rlist rs hr h⟩
theorem rflagsE (rs : List Bool) (hr : rs.length ≤ 2097152) : ∃ o : Option (List Bool), SpecD S 38 [.own .bool 0 0 rs.length .whole] [.row .bool rs] (slO .bool o) [.row .bool rs] := by
  rcases Classical.em (rs = []) with rfl | h
  · exact ⟨none, c_rflags0⟩
  · exact ⟨some rs, c_rflags rs hr h⟩
theorem rnH_eq {l : List El_grp} {R : V} {xs : List El_vt} {ys : List Bool} {y : El_vt} {b : Bool} : rnH l R (xs ++ [y]) (ys ++ [b]) = [.cells [.imm .grp l, .own .vt 1 0 (xs.length + 1) .whole, .own .bool 2 0 (ys.length + 1) .whole, .nils, .nils, R], .row .vt (xs.take xs.length ++ [y]), .row .bool (ys.take ys.length ++ [b])] := by simp [rnH]

set_option maxRecDepth 100000 in
set_option maxHeartbeats 4000000 in
theorem c_rNew0 (l : List El_grp) (ps ls rs w : List El_vt) (hp : ps.length ≤ 1048576) (hls : ls.length ≤ 1048576) (ho : SpecD S 37 [.imm .vt rs] [] .nils []) :
    SpecD S 21 [.imm .grp l, .imm .vt ps, .imm .vt ls, .imm .vt rs] [] .cell [] := by
  refine specE ok sh21 rfl ?_
  conv => whnf
  refine call_of [] (ho) (by rfl) (by rfl) ?_
  conv => whnf
  refine loop_of [.cell 0 1 .vt, .cell 0 2 .bool] [0, 1, 2] (fun vs H => ∃ (j : Nat) (xs : List El_vt) (ys : List Bool), j ≤ ps.length ∧ xs.length = j ∧ ys.length = j ∧ vs = rnV1 ps ls rs j ∧ H = rnH l .nils xs ys)
    (fun vs _ => match vs with | [_, _, _, _, .int _ j] => ps.length - j.toNat | _ => 0) (by rfl) (by rfl) (by rfl) (by rfl) ⟨0, [], [], Nat.zero_le _, rfl, rfl, rfl, rfl⟩ ?_
  rintro vs H1 ⟨j, xs, ys, hj, hxj, hyj, rfl, rfl⟩
  conv => whnf
  cases hd : decide ((j : Int) < ps.length)
  rotate_left
  · conv => whnf
    have := of_decide_eq_true hd
    have hw : IntKind.i64.wrap ((j : Int) + 1) = ((j + 1 : Nat) : Int) := wrap_i64 (by omega) (by omega)
    refine ⟨rfl, by omega, by omega, ?_⟩
    conv => whnf
    refine ⟨by rw [Int.toNat_natCast]; omega, by decide, ?_⟩
    generalize ps.getD (Int.toNat (j : Int)) (S.zero .vt) = y
    conv => whnf
    refine And.intro (by repeat first | exact trivial | refine And.intro (by first | rfl | exact trivial) ?_) ?_
    conv => whnf
    refine ⟨rfl, by simp, ?_⟩
    conv => whnf
    refine ⟨rfl, by show 0 + xs.length ≤ xs.length; omega, ⟨by show xs.length + 1 ≤ maxLen; unfold maxLen; omega, by show (xs.length + 1) * 24 ≤ _; omega⟩, rfl, ?_⟩
    conv => whnf
    refine And.intro (by repeat first | exact trivial | refine And.intro (by first | rfl | exact trivial) ?_) ?_
    conv => whnf
    refine ⟨rfl, by simp, ?_⟩
    conv => whnf
    refine ⟨rfl, by show 0 + ys.length ≤ ys.length; omega, ⟨by show ys.length + 1 ≤ maxLen; unfold maxLen; omega, by show (ys.length + 1) * 1 ≤ _; omega⟩, rfl, ?_⟩
    conv => whnf
    refine ⟨[0, 4, 6], [], relo_of [0, 4, 6] (by rfl) (by rfl), ?_⟩
    refine ⟨⟨j + 1, xs ++ [y], ys ++ [true], by omega, by simp [hxj], by simp [hyj], congrArg (rnV1 ps ls rs) hw, ?_⟩, ?_⟩
    · rw [rnH_eq]; rfl
    · show ps.length - (IntKind.i64.wrap ((j : Int) + 1)).toNat < ps.length - (j : Int).toNat
      rw [hw]; omega
  have := of_decide_eq_false hd
  obtain rfl : j = ps.length := by omega
  conv => whnf
  refine loop_of [] [0, 1, 2] (fun vs H => ∃ (j : Nat) (xs : List El_vt) (ys : List Bool), j ≤ ls.length ∧ xs.length = ps.length + j ∧ ys.length = ps.length + j ∧ vs = rnV2 ls rs j ∧ H = rnH l .nils xs ys)
    (fun vs _ => match vs with | [_, _, _, .int _ j] => ls.length - j.toNat | _ => 0) (by rfl) (by rfl) (by rfl) (by rfl) ⟨0, xs, ys, Nat.zero_le _, hxj, hyj, rfl, rfl⟩ ?_
  clear hxj hyj hj hd this xs ys
  rintro vs H1 ⟨j, xs, ys, hj, hxj, hyj, rfl, rfl⟩
  conv => whnf
  cases hd : decide ((j : Int) < ls.length)
  rotate_left
  · conv => whnf
    have := of_decide_eq_true hd
    have hw : IntKind.i64.wrap ((j : Int) + 1) = ((j + 1 : Nat) : Int) := wrap_i64 (by omega) (by omega)
    refine ⟨rfl, by omega, by omega, ?_⟩
    conv => whnf
    refine ⟨by rw [Int.toNat_natCast]; omega, by decide, ?_⟩
    generalize hy : ls.getD (Int.toNat (j : Int)) (S.zero .vt) = y
    conv => whnf
    refine And.intro (by repeat first | exact trivial | refine And.intro (by first | rfl | exact trivial) ?_) ?_
    conv => whnf
    refine ⟨rfl, by simp, ?_⟩
    conv => whnf
    refine ⟨rfl, by show 0 + xs.length ≤ xs.length; omega, ⟨by show xs.length + 1 ≤ maxLen; unfold maxLen; omega, by show (xs.length + 1) * 24 ≤ _; omega⟩, rfl, ?_⟩
    conv => whnf
    refine And.intro (by repeat first | exact trivial | refine And.intro (by first | rfl | exact trivial) ?_) ?_
    conv => whnf
    refine ⟨rfl, by omega, by omega, ?_⟩
    conv => whnf
    refine ⟨by rw [Int.toNat_natCast]; omega, by decide, ?_⟩
    rw [hy]
    conv => whnf
    refine call_of [] (c_dflR y) (by rfl) (by rfl) ?_
    conv => whnf
    refine And.intro (by repeat first | exact trivial | refine And.intro (by first | rfl | exact trivial) ?_) ?_
    conv => whnf
    refine And.intro (by repeat first | exact trivial | refine And.intro (by first | rfl | exact trivial) ?_) ?_
    conv => whnf
    refine ⟨rfl, by simp, ?_⟩
    conv => whnf
    refine ⟨rfl, by show 0 + ys.length ≤ ys.length; omega, ⟨by show ys.length + 1 ≤ maxLen; unfold maxLen; omega, by show (ys.length + 1) * 1 ≤ _; omega⟩, rfl, ?_⟩
    conv => whnf
    refine And.intro (by repeat first | exact trivial | refine And.intro (by first | rfl | exact trivial) ?_) ?_
    conv => whnf
    refine ⟨[0, 4, 6], [], relo_of [0, 4, 6] (by rfl) (by rfl), ?_⟩
    refine ⟨⟨j + 1, xs ++ [y], ys ++ [dfl y], by omega, by simp [hxj]; omega, by simp [hyj]; omega, congrArg (rnV2 ls rs) hw, ?_⟩, ?_⟩
    · rw [rnH_eq]; rfl
    · show ls.length - (IntKind.i64.wrap ((j : Int) + 1)).toNat < ls.length - (j : Int).toNat
      rw [hw]; omega
  have := of_decide_eq_false hd
  obtain rfl : j = ls.length := by omega
  obtain ⟨o2, h2⟩ := rflagsE ys (by omega)
  conv => whnf
  refine call_of [] (ho) (by rfl) (by rfl) ?_
  conv => whnf
  refine And.intro (by repeat first | exact trivial | refine And.intro (by first | rfl | exact trivial) ?_) ?_
  conv => whnf
  cases o2
  · refine call_of [2] (h2) (by rfl) (by rfl) ?_
    conv => whnf
    refine And.intro (by repeat first | exact trivial | refine And.intro (by first | rfl | exact trivial) ?_) ?_
    conv => whnf
    refine And.intro (by repeat first | exact trivial | refine And.intro (by first | rfl | exact trivial) ?_) ?_
    conv => whnf
    exact end_of [] (by rfl) (by rfl) (by rfl) (by exact ⟨rfl, rfl⟩)
  · refine call_of [2] (h2) (by rfl) (by rfl) ?_
    conv => whnf
    refine And.intro (by repeat first | exact trivial | refine And.intro (by first | rfl | exact trivial) ?_) ?_
    conv => whnf
    refine And.intro (by repeat first | exact trivial | refine And.intro (by first | rfl | exact trivial) ?_) ?_
    conv => whnf
    exact end_of [] (by rfl) (by rfl) (by rfl) (by exact ⟨rfl, rfl⟩)

set_option maxRecDepth 100000 in
set_option maxHeartbeats 4000000 in
theorem c_rNew1 (l : List El_grp) (ps ls rs w : List El_vt) (hp : ps.length ≤ 1048576) (hls : ls.length ≤ 1048576) (ho : SpecD S 37 [.imm .vt rs] [] (.imm .vt w) []) :
    SpecD S 21 [.imm .grp l, .imm .vt ps, .imm .vt ls, .imm .vt rs] [] .cell [] := by
  refine specE ok sh21 rfl ?_
  conv => whnf
  refine call_of [] (ho) (by rfl) (by rfl) ?_
  conv => whnf
  refine loop_of [.cell 0 1 .vt, .cell 0 2 .bool] [0, 1, 2] (fun vs H => ∃ (j : Nat) (xs : List El_vt) (ys : List Bool), j ≤ ps.length ∧ xs.length = j ∧ ys.length = j ∧ vs = rnV1 ps ls rs j ∧ H = rnH l (.imm .vt w) xs ys)
    (fun vs _ => match vs with | [_, _, _, _, .int _ j] => ps.length - j.toNat | _ => 0) (by rfl) (by rfl) (by rfl) (by rfl) ⟨0, [], [], Nat.zero_le _, rfl, rfl, rfl, rfl⟩ ?_
  rintro vs H1 ⟨j, xs, ys, hj, hxj, hyj, rfl, rfl⟩
  conv => whnf
  cases hd : decide ((j : Int) < ps.length)
  rotate_left
  · conv => whnf
    have := of_decide_eq_true hd
    have hw : IntKind.i64.wrap ((j : Int) + 1) = ((j + 1 : Nat) : Int) := wrap_i64 (by omega) (by omega)
    refine ⟨rfl, by omega, by omega, ?_⟩
    conv => whnf
    refine ⟨by rw [Int.toNat_natCast]; omega, by decide, ?_⟩
    generalize ps.getD (Int.toNat (j : Int)) (S.zero .vt) = y
    conv => whnf
    refine And.intro (by repeat first | exact trivial | refine And.intro (by first | rfl | exact trivial) ?_) ?_
    conv => whnf
    refine ⟨rfl, by simp, ?_⟩
    conv => whnf
    refine ⟨rfl, by show 0 + xs.length ≤ xs.length; omega, ⟨by show xs.length + 1 ≤ maxLen; unfold maxLen; omega, by show (xs.length + 1) * 24 ≤ _; omega⟩, rfl, ?_⟩
    conv => whnf
    refine And.intro (by repeat first | exact trivial | refine And.intro (by first | rfl | exact trivial) ?_) ?_
    conv => whnf
    refine ⟨rfl, by simp, ?_⟩
    conv => whnf
    refine ⟨rfl, by show 0 + ys.length ≤ ys.length; omega, ⟨by show ys.length + 1 ≤ maxLen; unfold maxLen; omega, by show (ys.length + 1) * 1 ≤ _; omega⟩, rfl, ?_⟩
    conv => whnf
    refine ⟨[0, 4, 6], [], relo_of [0, 4, 6] (by rfl) (by rfl), ?_⟩
    refine ⟨⟨j + 1, xs ++ [y], ys ++ [true], by omega, by simp [hxj], by simp [hyj], congrArg (rnV1 ps ls rs) hw, ?_⟩, ?_⟩
    · rw [rnH_eq]; rfl
    · show ps.length - (IntKind.i64.wrap ((j : Int) + 1)).toNat < ps.length - (j : Int).toNat
      rw [hw]; omega
  have := of_decide_eq_false hd
  obtain rfl : j = ps.length := by omega
  conv => whnf
  refine loop_of [] [0, 1, 2] (fun vs H => ∃ (j : Nat) (xs : List El_vt) (ys : List Bool), j ≤ ls.length ∧ xs.length = ps.length + j ∧ ys.length = ps.length + j ∧ vs = rnV2 ls rs j ∧ H = rnH l (.imm .vt w) xs ys)
    (fun vs _ => match vs with | [_, _, _, .int _ j] => ls.length - j.toNat | _ => 0) (by rfl) (by rfl) (by rfl) (by rfl) ⟨0, xs, ys, Nat.zero_le _, hxj, hyj, rfl, rfl⟩ ?_
  clear hxj hyj hj hd this xs ys
  rintro vs H1 ⟨j, xs, ys, hj, hxj, hyj, rfl, rfl⟩
  conv => whnf
  cases hd : decide ((j : Int) < ls.length)
  rotate_left
  · conv => whnf
    have := of_decide_eq_true hd
    have hw : IntKind.i64.wrap ((j : Int) + 1) = ((j + 1 : Nat) : Int) := wrap_i64 (by omega) (by omega)
    refine ⟨rfl, by omega, by omega, ?_⟩
    conv => whnf
    refine ⟨by rw [Int.toNat_natCast]; omega, by decide, ?_⟩
    generalize hy : ls.getD (Int.toNat (j : Int)) (S.zero .vt) = y
    conv => whnf
    refine And.intro (by repeat first | exact trivial | refine And.intro (by first | rfl | exact trivial) ?_) ?_
    conv => whnf
    refine ⟨rfl, by simp, ?_⟩
    conv => whnf
    refine ⟨rfl, by show 0 + xs.length ≤ xs.length; omega, ⟨by show xs.length + 1 ≤ maxLen; unfold maxLen; omega, by show (xs.length + 1) * 24 ≤ _; omega⟩, rfl, ?_⟩
    conv => whnf
    refine And.intro (by repeat first | exact trivial | refine And.intro (by first | rfl | exact trivial) ?_) ?_
    conv => whnf
    refine ⟨rfl, by omega, by omega, ?_⟩
    conv => whnf
    refine ⟨by rw [Int.toNat_natCast]; omega, by decide, ?_⟩
    rw [hy]
    conv => whnf
    refine call_of [] (c_dflR y) (by rfl) (by rfl) ?_
    conv => whnf
    refine And.intro (by repeat first | exact trivial | refine And.intro (by first | rfl | exact trivial) ?_) ?_
    conv => whnf
    refine And.intro (by repeat first | exact trivial | refine And.intro (by first | rfl | exact trivial) ?_) ?_
    conv => whnf
    refine ⟨rfl, by simp, ?_⟩
    conv => whnf
    refine ⟨rfl, by show 0 + ys.length ≤ ys.length; omega, ⟨by show ys.length + 1 ≤ maxLen; unfold maxLen; omega, by show (ys.length + 1) * 1 ≤ _; omega⟩, rfl, ?_⟩
    conv => whnf
    refine And.intro (by repeat first | exact trivial | refine And.intro (by first | rfl | exact trivial) ?_) ?_
    conv => whnf
    refine ⟨[0, 4, 6], [], relo_of [0, 4, 6] (by rfl) (by rfl), ?_⟩
    refine ⟨⟨j + 1, xs ++ [y], ys ++ [dfl y], by omega, by simp [hxj]; omega, by simp [hyj]; omega, congrArg (rnV2 ls rs) hw, ?_⟩, ?_⟩
    · rw [rnH_eq]; rfl
    · show ls.length - (IntKind.i64.wrap ((j : Int) + 1)).toNat < ls.length - (j : Int).toNat
      rw [hw]; omega
  have := of_decide_eq_false hd
  obtain rfl : j = ls.length := by omega
  obtain ⟨o2, h2⟩ := rflagsE ys (by omega)
  conv => whnf
  refine call_of [] (ho) (by rfl) (by rfl) ?_
  conv => whnf
  refine And.intro (by repeat first | exact trivial | refine And.intro (by first | rfl | exact trivial) ?_) ?_
  conv => whnf
  cases o2
  · refine call_of [2] (h2) (by rfl) (by rfl) ?_
    conv => whnf
    refine And.intro (by repeat first | exact trivial | refine And.intro (by first | rfl | exact trivial) ?_) ?_
    conv => whnf
    refine And.intro (by repeat first | exact trivial | refine And.intro (by first | rfl | exact trivial) ?_) ?_
    conv => whnf
    exact end_of [] (by rfl) (by rfl) (by rfl) (by exact ⟨rfl, rfl⟩)
  · refine call_of [2] (h2) (by rfl) (by rfl) ?_
    conv => whnf
    refine And.intro (by repeat first | exact trivial | refine And.intro (by first | rfl | exact trivial) ?_) ?_
    conv => whnf
    refine And.intro (by repeat first | exact trivial | refine And.intro (by first | rfl | exact trivial) ?_) ?_
    conv => whnf
    exact end_of [] (by rfl) (by rfl) (by rfl) (by exact ⟨rfl, rfl⟩)

theorem c_rNew (l : List El_grp) (ps ls rs : List El_vt) (hp : ps.length ≤ 1048576) (hls : ls.length ≤ 1048576) (hr : rs.length ≤ 1048576) :
    SpecD S 21 [.imm .grp l, .imm .vt ps, .imm .vt ls, .imm .vt rs] [] .cell [] := by
  obtain ⟨_ | w, ho⟩ := rlistE rs hr
  · exact c_rNew0 l ps ls rs [] hp hls ho
  · exact c_rNew1 l ps ls rs w hp hls ho

abbrev f0N (ps ls rs : List El_vt) : El_frame := mkF 2 0 none rs (nwSe ps.length (ps ++ ls) (ps ++ ls).length) false
set_option maxRecDepth 100000 in
theorem c_begin (l : List El_grp) (ps ls rs : List El_vt) (hl : l.length ≤ 1048576) (hg : ∀ g ∈ l, good_grp 1048576 g) (hp : ps.length ≤ 1048576) (hls : ls.length ≤ 1048576) (hr : rs.length ≤ 1048576) :
    SpecD S 5 [.agg [.imm .grp l, .imm .vt ps, .imm .vt ls, .imm .vt rs]] [] (.tup [.ptr 0 0, .cell]) (ck l (ps ++ ls) (nwSe ps.length (ps ++ ls) (ps ++ ls).length) rs (.own .vt 4 0 0 .whole) (.own .frame 5 0 1 .whole) [] [f0N ps ls rs]) := by
  refine specE ok sh5 rfl ?_
  conv => whnf
  refine call_of [] (c_list ps hp) (by rfl) (by rfl) ?_
  conv => whnf
  refine And.intro (by repeat first | exact trivial | refine And.intro (by first | rfl | exact trivial) ?_) ?_
  conv => whnf
  refine call_of [] (c_list ls hls) (by rfl) (by rfl) ?_
  conv => whnf
  refine And.intro (by repeat first | exact trivial | refine And.intro (by first | rfl | exact trivial) ?_) ?_
  conv => whnf
  refine call_of [] (c_list rs hr) (by rfl) (by rfl) ?_
  conv => whnf
  refine And.intro (by repeat first | exact trivial | refine And.intro (by first | rfl | exact trivial) ?_) ?_
  conv => whnf
  refine call_of [] (c_New l ps ls rs hl hg hp hls hr) (by rfl) (by rfl) ?_
  conv => whnf
  refine And.intro (by repeat first | exact trivial | refine And.intro (by first | rfl | exact trivial) ?_) ?_
  conv => whnf
  refine call_of [] (c_rNew l ps ls rs hp hls hr) (by rfl) (by rfl) ?_
  conv => whnf
  exact end_of [1, 2, 3, 4, 5, 6] (by rfl) (by rfl) (by rfl) (by exact ⟨rfl, rfl⟩)

end Sh
end Go.Proofs.YtlnloekadohddaaDoor
