/- VrefConsts: the law. -/
import Derived.Test.YtjmcnobglookpaaVF
import Derived.Test.YtjmcnobglookpaaVE
namespace Go.Proofs.Ytjmcnobglookpaa
open Go
namespace Sh
def lwV (n : Nat) (op a b d e : Int) (hs : Bool) (j : Int) : List V := [.int .i64 op, .int .i64 a, .int .i64 b, .int .i64 d, .int .i64 e, .own .int 0 0 n .whole, .bool hs, .int .i64 j]
theorem any_succ {l : List Int} {j : Nat} {y op : Int} (h : l[j]? = some y) : (l.take (j + 1)).any (fun x => x == op) = ((l.take j).any (fun x => x == op) || (y == op)) := by
  rw [take_succ' h]; simp

set_option maxRecDepth 100000 in
set_option maxHeartbeats 4000000 in
theorem c_law (c : Cx) (l : List El_instr) (g op : Int) (hl : l.length ≤ 1048576) (hgl : c.gs.length ≤ 1048576) (hg : ∀ r ∈ l, good_instr 1048576 r) :
    SpecD S 3 [.agg c.cells, .imm .instr l, .int .i64 g, .int .i64 op] [] (.bool true) [] := by
  have k4 := c_const4 c l g hl hgl hg
  have k5 := c_const5 c l g hl hgl hg
  generalize cst (fun r => stp c.gs g r.op r.x) l 0 = R at k4 k5
  obtain ⟨a, b⟩ := R
  simp only at k4 k5
  have hV := VOPS_len
  have hup := VOPS_up
  have hhas := VOPS_has op
  have kO := c_vOps
  generalize VOPS = L at hV hup hhas kO
  refine specE ok sh3 rfl ?_
  conv => whnf
  refine call_of [] (k4) (by rfl) (by rfl) ?_
  conv => whnf
  try (refine And.intro (by repeat first | exact trivial | refine And.intro (by first | rfl | exact trivial) ?_) ?_; conv => whnf)
  refine call_of [] (k5) (by rfl) (by rfl) ?_
  conv => whnf
  try (refine And.intro (by repeat first | exact trivial | refine And.intro (by first | rfl | exact trivial) ?_) ?_; conv => whnf)
  refine call_of [] (kO) (by rfl) (by rfl) ?_
  conv => whnf
  try (refine And.intro (by repeat first | exact trivial | refine And.intro (by first | rfl | exact trivial) ?_) ?_; conv => whnf)
  refine loop_of [] [1] (fun vs H => ∃ (j : Nat), j ≤ L.length ∧ vs = lwV L.length op a b a b ((L.take j).any fun x => x == op) j ∧ H = [.row .int L])
    (fun vs _ => match vs with | [_, _, _, _, _, _, _, .int _ j] => L.length - j.toNat | _ => 0) (by rfl) (by rfl) (by rfl) (by rfl) ⟨0, Nat.zero_le _, rfl, rfl⟩ ?_
  rintro vs H1 ⟨j, hj, rfl, rfl⟩
  conv => whnf
  cases hd : decide ((j : Int) < L.length)
  · have := of_decide_eq_false hd
    obtain rfl : j = L.length := by omega
    rw [List.take_length, hhas]
    conv => whnf
    rw [show (a == a) = true by simp]
    conv => whnf
    rw [show (b == b) = true by simp]
    conv => whnf
    refine call_of [] (c_Takes op) (by rfl) (by rfl) ?_
    conv => whnf
    rw [show (tk op == tk op) = true by simp]
    conv => whnf
    refine call_of [] (c_awake) (by rfl) (by rfl) ?_
    conv => whnf
    exact end_of [] (by rfl) (by rfl) (by rfl) (by exact ⟨rfl, rfl⟩)
  have := of_decide_eq_true hd
  have hw : IntKind.i64.wrap ((j : Int) + 1) = ((j + 1 : Nat) : Int) := wrap_i64 (by omega) (by omega)
  have hy := getD_at (show j < L.length by omega) (S.zero .int)
  have hge : L.getD (0 + Int.toNat (j : Int)) (S.zero .int) = L.getD j (S.zero .int) := by rw [Nat.zero_add, Int.toNat_natCast]
  have hj1 : 0 < j → L.getD (j - 1) (S.zero .int) < L.getD j (S.zero .int) := fun h0 => by
    have := hup ⟨j - 1, by omega⟩
    rw [show (j - 1 + 1) = j by omega] at this
    exact this
  generalize L.getD j (S.zero .int) = y at hy hge hj1
  have hnx := any_succ (op := op) hy
  conv => whnf
  cases h0 : decide (0 < (j : Int))
  · have h0' := of_decide_eq_false h0
    obtain rfl : j = 0 := by omega
    rw [show (L.take 0).any (fun x => x == op) = false from rfl] at hnx ⊢
    conv => whnf
    refine ⟨rfl, by omega, by omega, ?_⟩
    conv => whnf
    refine ⟨rfl, by omega, (by decide : 0 + 1 ≤ 1), ?_⟩
    rw [hge]
    conv => whnf
    refine ⟨[0], [], relo_of [0] (by rfl) (by rfl), ?_⟩
    refine ⟨⟨0 + 1, by omega, ?_, rfl⟩, ?_⟩
    · rw [hnx, Bool.false_or]; exact congrArg (lwV L.length op a b a b (y == op)) hw
    · show L.length - (IntKind.i64.wrap ((((0 : Nat)) : Int) + 1)).toNat < L.length - (((0 : Nat)) : Int).toNat
      rw [hw]; omega
  have h0' := of_decide_eq_true h0
  have hs1 : IntKind.i64.wrap ((j : Int) - 1) = ((j - 1 : Nat) : Int) := by rw [wrap_i64 (by omega) (by omega)]; omega
  conv => whnf
  refine ⟨rfl, by omega, by omega, ?_⟩
  conv => whnf
  refine ⟨rfl, by omega, (by decide : 0 + 1 ≤ 1), ?_⟩
  rw [hge]
  conv => whnf
  refine ⟨rfl, by rw [hs1]; omega, by rw [hs1]; omega, ?_⟩
  conv => whnf
  refine ⟨rfl, by rw [hs1]; omega, (by decide : 0 + 1 ≤ 1), ?_⟩
  rw [hs1, show L.getD (0 + Int.toNat ((j - 1 : Nat) : Int)) (S.zero .int) = L.getD (j - 1) (S.zero .int) by rw [Nat.zero_add, Int.toNat_natCast]]
  have hlt := hj1 (by omega)
  generalize L.getD (j - 1) (S.zero .int) = z at hlt
  conv => whnf
  rw [show decide (y ≤ z) = false from decide_eq_false (by omega)]
  conv => whnf
  cases hA : (L.take j).any (fun x => x == op)
  · rw [hA] at hnx
    conv => whnf
    refine ⟨rfl, by omega, by omega, ?_⟩
    conv => whnf
    refine ⟨rfl, by omega, (by decide : 0 + 1 ≤ 1), ?_⟩
    rw [hge]
    conv => whnf
    refine ⟨[0], [], relo_of [0] (by rfl) (by rfl), ?_⟩
    refine ⟨⟨j + 1, by omega, ?_, rfl⟩, ?_⟩
    · rw [hnx, Bool.false_or]; exact congrArg (lwV L.length op a b a b (y == op)) hw
    · show L.length - (IntKind.i64.wrap ((j : Int) + 1)).toNat < L.length - (j : Int).toNat
      rw [hw]; omega
  · rw [hA] at hnx
    conv => whnf
    refine ⟨[0], [], relo_of [0] (by rfl) (by rfl), ?_⟩
    refine ⟨⟨j + 1, by omega, ?_, rfl⟩, ?_⟩
    · rw [hnx, Bool.true_or]; exact congrArg (lwV L.length op a b a b true) hw
    · show L.length - (IntKind.i64.wrap ((j : Int) + 1)).toNat < L.length - (j : Int).toNat
      rw [hw]; omega
end Sh
end Go.Proofs.Ytjmcnobglookpaa
