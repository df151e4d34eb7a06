/- stack.New. -/
import Derived.Test.YtlnloekadohddaaDoorSkG
namespace Go.Proofs.YtlnloekadohddaaDoor
open Go
namespace Sh
def nwE (n : Nat) (lo : List El_vt) (i : Nat) : Bool := decide ((i : Int) < n) || dfl (lo.getD i zvt)
def nwSe (n : Nat) (lo : List El_vt) (j : Nat) : List Bool := (List.range j).map (nwE n lo)
def nwV (ps rs : List El_vt) (n : Nat) (j : Int) : List V := [.imm .vt ps, .imm .vt rs, .ptr 0 0, .own .vt 1 0 n .whole, .int .i64 n, .int .i64 j]
def nwH (l : List El_grp) (rs : List El_vt) (n : Nat) (lo : List El_vt) (se : List Bool) : Heap KT ElT := [.cells [.bool true, .imm .grp l, .own .vt 1 0 n .whole, .own .bool 2 0 se.length .whole, .own .vt 3 0 rs.length .whole, .nils, .nils], .row .vt lo, .row .bool se, .row .vt rs]

theorem nwSe_len (n : Nat) (lo : List El_vt) (j : Nat) : (nwSe n lo j).length = j := by simp [nwSe]
theorem nwSe_succ (n : Nat) (lo : List El_vt) (j : Nat) : nwSe n lo (j + 1) = nwSe n lo j ++ [nwE n lo j] := by simp [nwSe, List.range_succ]

set_option maxRecDepth 100000 in
theorem c_pushF_N (l : List El_grp) (rs : List El_vt) (n : Nat) (lo : List El_vt) (se : List Bool) (a b : Int) (d s : List _) (x : Bool) : SpecD S 29 [.ptr 0 6, .agg (enc_frame (mkF a b none d s x))] (nwH l rs n lo se) (.tup [])
    [.cells [.bool true, .imm .grp l, .own .vt 1 0 n .whole, .own .bool 2 0 se.length .whole, .own .vt 3 0 rs.length .whole, .nils, .own .frame 4 0 1 .whole], .row .vt lo, .row .bool se, .row .vt rs, .row .frame [mkF a b none d s x]] := by
  refine specE ok sh29 rfl ?_
  conv => whnf
  refine And.intro (by repeat first | exact trivial | refine And.intro (by first | rfl | exact trivial) ?_) ?_
  conv => whnf
  refine ⟨rfl, by simp, ?_⟩
  conv => whnf
  refine ⟨⟨(by decide : 1 ≤ maxLen), (by decide : 1 * 96 ≤ 140737488355328)⟩, ?_⟩
  conv => whnf
  refine And.intro (by repeat first | exact trivial | refine And.intro (by first | rfl | exact trivial) ?_) ?_
  conv => whnf
  exact end_of [0, 1, 2, 3, 6] (by rfl) (by rfl) (by rfl) (by exact ⟨rfl, rfl⟩)

set_option maxRecDepth 100000 in
set_option maxHeartbeats 2000000 in
theorem c_New (l : List El_grp) (ps ls rs : List El_vt) (hl : l.length ≤ 1048576) (hg : ∀ g ∈ l, good_grp 1048576 g) (hp : ps.length ≤ 1048576) (hls : ls.length ≤ 1048576) (hr : rs.length ≤ 1048576) :
    SpecD S 20 [.imm .grp l, .imm .vt ps, .imm .vt ls, .imm .vt rs] [] (.ptr 0 0) (ck l (ps ++ ls) (nwSe ps.length (ps ++ ls) (ps ++ ls).length) rs (.own .vt 4 0 0 .whole) (.own .frame 5 0 1 .whole) [] [mkF 2 0 none rs (nwSe ps.length (ps ++ ls) (ps ++ ls).length) false]) := by
  have e1 : List.take ps.length ps ++ ls = ps ++ ls := by rw [List.take_length]
  have e2 : ps.length + ls.length = (ps ++ ls).length := by simp
  have e3 : (ps ++ ls).length ≤ 2097152 := by simp; omega
  generalize hlo : ps ++ ls = lo at e1 e2 e3
  refine specE ok sh20 rfl ?_
  conv => whnf
  refine call_of [] (c_keep l hl hg) (by rfl) (by rfl) ?_
  conv => whnf
  refine call_of [] (c_cpO_vt ps hp) (by rfl) (by rfl) ?_
  conv => whnf
  refine ⟨rfl, by simp, ⟨by show ps.length + ls.length ≤ maxLen; unfold maxLen; omega, by show (ps.length + ls.length) * 24 ≤ _; omega⟩, rfl, ?_⟩
  conv => whnf
  refine call_of [] (c_cpO_vt rs hr) (by rfl) (by rfl) ?_
  conv => whnf
  refine loop_of [.cell 3 3 .bool] [3, 1, 4, 2] (fun vs H => ∃ j : Nat, j ≤ lo.length ∧ vs = nwV ps rs lo.length j ∧ H = nwH l rs lo.length lo (nwSe ps.length lo j))
    (fun vs _ => match vs with | [_, _, _, _, _, .int _ j] => lo.length - j.toNat | _ => 0) (by rfl) (by rfl) (by rfl) (by rfl) ⟨0, Nat.zero_le _, by rw [← e2]; rfl, ?_⟩ ?_
  · rw [← e2]
    show _ = nwH l rs (ps.length + ls.length) lo []
    rw [← e1]
    rfl
  rintro vs H1 ⟨j, hj, rfl, rfl⟩
  conv => whnf
  cases hd : decide ((j : Int) < lo.length)
  · conv => whnf
    have := of_decide_eq_false hd
    obtain rfl : j = lo.length := by omega
    refine call_of [] (c_cpI_vt rs hr) (by rfl) (by rfl) ?_
    conv => whnf
    refine And.intro (by repeat first | exact trivial | refine And.intro (by first | rfl | exact trivial) ?_) ?_
    conv => whnf
    refine call_of [2] (c_cpR_bool_whole (nwSe ps.length lo lo.length) (nwSe ps.length lo lo.length).length (Nat.le_refl _) (by rw [nwSe_len]; omega)) (by rfl) (by rfl) ?_
    conv => whnf
    rw [List.take_length]
    refine And.intro (by repeat first | exact trivial | refine And.intro (by first | rfl | exact trivial) ?_) ?_
    conv => whnf
    refine call_of [0, 1, 2, 3] (c_pushF_N l rs lo.length lo (nwSe ps.length lo lo.length) 2 0 rs (nwSe ps.length lo lo.length) false) (by rfl) (by rfl) ?_
    conv => whnf
    refine endG_of [.cell 0 5 .vt] [0, 1, 2, 3, 5, 4] (by rfl) (by rfl) (by rfl) (by rfl) ⟨rfl, ?_⟩
    rfl
  · conv => whnf
    have hlt := of_decide_eq_true hd
    have hw : IntKind.i64.wrap ((j : Int) + 1) = ((j + 1 : Nat) : Int) := wrap_i64 (by omega) (by omega)
    refine ⟨rfl, by omega, by omega, ?_⟩
    conv => whnf
    refine ⟨rfl, by omega, (by decide : 0 + 3 ≤ 3), ?_⟩
    rw [show lo.getD (0 + Int.toNat (j : Int)) (S.zero .vt) = lo.getD j zvt by rw [Nat.zero_add, Int.toNat_natCast]; rfl]
    have hs : nwSe ps.length lo (j + 1) = nwSe ps.length lo j ++ [nwE ps.length lo j] := nwSe_succ _ _ _
    have hs2 := nwSe_len ps.length lo j
    unfold nwE at hs
    generalize nwSe ps.length lo j = se at hs hs2
    generalize hv : lo.getD j zvt = v at hs
    conv => whnf
    cases hb : decide ((j : Int) < ps.length)
    · rw [hb, Bool.false_or] at hs
      conv => whnf
      refine call_of [] (c_dflT v) (by rfl) (by rfl) ?_
      conv => whnf
      refine And.intro (by repeat first | exact trivial | refine And.intro (by first | rfl | exact trivial) ?_) ?_
      conv => whnf
      refine And.intro (by repeat first | exact trivial | refine And.intro (by first | rfl | exact trivial) ?_) ?_
      conv => whnf
      refine ⟨rfl, by simp, ?_⟩
      conv => whnf
      refine ⟨rfl, by show 0 + se.length ≤ se.length; omega, ⟨by show se.length + 1 ≤ maxLen; unfold maxLen; omega, by show (se.length + 1) * 1 ≤ _; omega⟩, rfl, ?_⟩
      conv => whnf
      refine And.intro (by repeat first | exact trivial | refine And.intro (by first | rfl | exact trivial) ?_) ?_
      conv => whnf
      refine ⟨[0, 1, 6, 3], [], relo_of [0, 1, 6, 3] (by rfl) (by rfl), ?_⟩
      refine ⟨⟨j + 1, by omega, congrArg (nwV ps rs lo.length) hw, ?_⟩, ?_⟩
      · rw [hs]
        show _ = nwH l rs lo.length lo (se ++ [dfl v])
        unfold nwH
        rw [show (se ++ [dfl v]).length = se.length + 1 by simp]
        have e4 : se.take se.length = se := List.take_length
        conv => rhs; rw [← e4]
        simp only [List.take_length]
        rfl
      · show lo.length - (IntKind.i64.wrap ((j : Int) + 1)).toNat < lo.length - (j : Int).toNat
        rw [hw]; omega
    · rw [hb, Bool.true_or] at hs
      conv => whnf
      refine And.intro (by repeat first | exact trivial | refine And.intro (by first | rfl | exact trivial) ?_) ?_
      conv => whnf
      refine ⟨rfl, by simp, ?_⟩
      conv => whnf
      refine ⟨rfl, by show 0 + se.length ≤ se.length; omega, ⟨by show se.length + 1 ≤ maxLen; unfold maxLen; omega, by show (se.length + 1) * 1 ≤ _; omega⟩, rfl, ?_⟩
      conv => whnf
      refine And.intro (by repeat first | exact trivial | refine And.intro (by first | rfl | exact trivial) ?_) ?_
      conv => whnf
      refine ⟨[0, 1, 6, 3], [], relo_of [0, 1, 6, 3] (by rfl) (by rfl), ?_⟩
      refine ⟨⟨j + 1, by omega, congrArg (nwV ps rs lo.length) hw, ?_⟩, ?_⟩
      · rw [hs]
        show _ = nwH l rs lo.length lo (se ++ [true])
        unfold nwH
        rw [show (se ++ [true]).length = se.length + 1 by simp]
        have e4 : se.take se.length = se := List.take_length
        conv => rhs; rw [← e4]
        simp only [List.take_length]
        rfl
      · show lo.length - (IntKind.i64.wrap ((j : Int) + 1)).toNat < lo.length - (j : Int).toNat
        rw [hw]; omega
end Sh
end Go.Proofs.YtlnloekadohddaaDoor
