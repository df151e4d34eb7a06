/- MADE BY PROGRAM (ne.py): VnumOps: the law. -/
import Derived.Test.YtomdfaelgcefdaaGreatDoorND
namespace Go.Proofs.YtomdfaelgcefdaaGreatDoor
open Go
namespace Sh
abbrev limC (x : El_lim) : List V := enc_lim x
def adI (w : Bool) : Int := if w then 2 else 1
abbrev numC (n : Int) : List V := [.int .i64 n, .bool false, .int .i64 0]

theorem c_num (n : Int) : SpecD S 83 [.int .i64 n] [] (.agg (numC n)) [] := by
  refine specE ok sh83 rfl ?_
  conv => whnf
  exact end_of [] (by rfl) (by rfl) (by rfl) (by exact ⟨rfl, rfl⟩)

theorem c_rnum (n : Int) : SpecD S 84 [.int .i64 n] [] (.agg (numC n)) [] := by
  refine specE ok sh84 rfl ?_
  conv => whnf
  exact end_of [] (by rfl) (by rfl) (by rfl) (by exact ⟨rfl, rfl⟩)

theorem c_Addr (x : El_lim) : SpecD S 32 [.agg (limC x)] [] (.agg (numC (adI x.wide))) [] := by
  obtain ⟨w, a, b, c⟩ := x
  refine specE ok sh32 rfl ?_
  conv => whnf
  cases w
  · conv => whnf
    refine call_of [] (c_num 1) (by rfl) (by rfl) ?_
    conv => whnf
    exact end_of [] (by rfl) (by rfl) (by rfl) (by exact ⟨rfl, rfl⟩)
  · conv => whnf
    refine call_of [] (c_num 2) (by rfl) (by rfl) ?_
    conv => whnf
    exact end_of [] (by rfl) (by rfl) (by rfl) (by exact ⟨rfl, rfl⟩)

theorem c_rAddr (x : El_lim) : SpecD S 33 [.agg (limC x)] [] (.agg (numC (adI x.wide))) [] := by
  obtain ⟨w, a, b, c⟩ := x
  refine specE ok sh33 rfl ?_
  conv => whnf
  cases w
  · conv => whnf
    refine call_of [] (c_rnum 1) (by rfl) (by rfl) ?_
    conv => whnf
    exact end_of [] (by rfl) (by rfl) (by rfl) (by exact ⟨rfl, rfl⟩)
  · conv => whnf
    refine call_of [] (c_rnum 2) (by rfl) (by rfl) ?_
    conv => whnf
    exact end_of [] (by rfl) (by rfl) (by rfl) (by exact ⟨rfl, rfl⟩)

theorem c_Least (x y : El_lim) : SpecD S 34 [.agg (limC x), .agg (limC y)] [] (.agg (numC (adI (x.wide && y.wide)))) [] := by
  have hy := c_Addr y
  obtain ⟨w, a, b, c⟩ := x
  obtain ⟨w', a', b', c'⟩ := y
  refine specE ok sh34 rfl ?_
  conv => whnf
  cases w
  · conv => whnf
    refine call_of [] (c_num 1) (by rfl) (by rfl) ?_
    conv => whnf
    exact end_of [] (by rfl) (by rfl) (by rfl) (by exact ⟨rfl, rfl⟩)
  · conv => whnf
    refine call_of [] (hy) (by rfl) (by rfl) ?_
    conv => whnf
    exact end_of [] (by rfl) (by rfl) (by rfl) (by exact ⟨rfl, rfl⟩)

theorem c_rLeast (x y : El_lim) : SpecD S 35 [.agg (limC x), .agg (limC y)] [] (.agg (numC (adI (x.wide && y.wide)))) [] := by
  obtain ⟨w, a, b, c⟩ := x
  obtain ⟨w', a', b', c'⟩ := y
  refine specE ok sh35 rfl ?_
  conv => whnf
  cases w
  · conv => whnf
    refine call_of [] (c_rnum 1) (by rfl) (by rfl) ?_
    conv => whnf
    exact end_of [] (by rfl) (by rfl) (by rfl) (by exact ⟨rfl, rfl⟩)
  · cases w'
    · conv => whnf
      refine call_of [] (c_rnum 1) (by rfl) (by rfl) ?_
      conv => whnf
      exact end_of [] (by rfl) (by rfl) (by rfl) (by exact ⟨rfl, rfl⟩)
    · conv => whnf
      refine call_of [] (c_rnum 2) (by rfl) (by rfl) ?_
      conv => whnf
      exact end_of [] (by rfl) (by rfl) (by rfl) (by exact ⟨rfl, rfl⟩)

theorem c_nawake : SpecD S 36 [] [] (.bool true) [] := by
  refine specE ok sh36 rfl ?_
  conv => whnf
  refine call_of [] (c_Addr ⟨true, 0, 0, false⟩) (by rfl) (by rfl) ?_
  conv => whnf
  exact end_of [] (by rfl) (by rfl) (by rfl) (by exact ⟨rfl, rfl⟩)

theorem NOPS_eq : NOPS = (List.range 3).map (fun (i : Nat) => 26 + (i : Int)) ++ (List.range 7).map (fun (i : Nat) => 32 + (i : Int)) ++ (List.range 157).map (fun (i : Nat) => 40 + (i : Int)) ++ (List.range 18).map (fun (i : Nat) => 64512 + (i : Int)) := by decide +kernel
theorem NOPS_has (op : Int) : (NOPS.any fun x => x == op) = sB op := by
  rw [NOPS_eq]
  rw [Bool.eq_iff_iff]
  simp only [sB, List.any_eq_true, decide_eq_true_eq, List.mem_append, List.mem_map, List.mem_range, beq_iff_eq]
  constructor
  · rintro ⟨x, ((⟨a, ha, rfl⟩ | ⟨a, ha, rfl⟩) | ⟨a, ha, rfl⟩) | ⟨a, ha, rfl⟩, rfl⟩ <;> omega
  · rintro (⟨h1, h2⟩ | ⟨h1, h2⟩ | ⟨h1, h2⟩ | ⟨h1, h2⟩)
    · exact ⟨op, .inl (.inl (.inl ⟨(op - 26).toNat, by omega, by omega⟩)), rfl⟩
    · exact ⟨op, .inl (.inl (.inr ⟨(op - 32).toNat, by omega, by omega⟩)), rfl⟩
    · exact ⟨op, .inl (.inr ⟨(op - 40).toNat, by omega, by omega⟩), rfl⟩
    · exact ⟨op, .inr ⟨(op - 64512).toNat, by omega, by omega⟩, rfl⟩
theorem NOPS_up : ∀ i : Fin 184, NOPS.getD i.val 0 < NOPS.getD (i.val + 1) 0 := by decide +kernel
theorem NOPS_len : NOPS.length = 185 := by decide +kernel
def lwV (n : Nat) (op : Int) (hs : Bool) (j : Int) : List V := [.int .i64 op, .ptr 1 0, .ptr 2 0, .own .int 0 0 n .whole, .bool hs, .int .i64 j]
theorem any_succ {l : List Int} {j : Nat} {y op : Int} (h : l[j]? = some y) : (l.take (j + 1)).any (fun x => x == op) = ((l.take j).any (fun x => x == op) || (y == op)) := by
  rw [take_succ' h]; simp

set_option maxRecDepth 100000 in
set_option maxHeartbeats 4000000 in
theorem c_law (op : Int) (x y : El_lim) (hop : -9223372036854775808 ≤ op ∧ op ≤ 9223372036854775807) :
    SpecD S 7 [.int .i64 op, .agg (limC x), .agg (limC y)] [] (.bool true) [] := by
  have kA := c_Addr x
  have kB := c_rAddr x
  have kC := c_Least x y
  have kD := c_rLeast x y
  have kK := c_known op hop
  generalize adI x.wide = q at kA kB
  generalize adI (x.wide && y.wide) = r at kC kD
  obtain ⟨w, a, b, c⟩ := x
  obtain ⟨w', a', b', c'⟩ := y
  have hV := NOPS_len
  have hup := NOPS_up
  have hhas := NOPS_has op
  have kO := c_nOps
  generalize NOPS = L at hV hup hhas kO
  refine specE ok sh7 rfl ?_
  conv => whnf
  refine call_of [] (kO) (by rfl) (by rfl) ?_
  conv => whnf
  try (refine And.intro (by repeat first | exact trivial | refine And.intro (by first | rfl | exact trivial) ?_) ?_; conv => whnf)
  refine loop_of [] [2, 0, 1] (fun vs H => ∃ (j : Nat), j ≤ L.length ∧ vs = lwV L.length op ((L.take j).any fun x => x == op) j ∧ H = [.row .int L, .cells (limC ⟨w, a, b, c⟩), .cells (limC ⟨w', a', b', c'⟩)])
    (fun vs _ => match vs with | [_, _, _, _, _, .int _ j] => L.length - j.toNat | _ => 0) (by rfl) (by rfl) (by rfl) (by rfl) ⟨0, Nat.zero_le _, rfl, rfl⟩ ?_
  rintro vs H1 ⟨j, hj, rfl, rfl⟩
  conv => whnf
  cases hd : decide ((j : Int) < L.length)
  · have := of_decide_eq_false hd
    obtain rfl : j = L.length := by omega
    rw [List.take_length, hhas]
    conv => whnf
    refine call_of [] (kK) (by rfl) (by rfl) ?_
    conv => whnf
    try (refine And.intro (by repeat first | exact trivial | refine And.intro (by first | rfl | exact trivial) ?_) ?_; conv => whnf)
    rw [show (sB op == sB op) = true by simp]
    conv => whnf
    refine call_of [] (kA) (by rfl) (by rfl) ?_
    conv => whnf
    try (refine And.intro (by repeat first | exact trivial | refine And.intro (by first | rfl | exact trivial) ?_) ?_; conv => whnf)
    refine call_of [] (kB) (by rfl) (by rfl) ?_
    conv => whnf
    try (refine And.intro (by repeat first | exact trivial | refine And.intro (by first | rfl | exact trivial) ?_) ?_; conv => whnf)
    rw [show (q == q) = true by simp]
    conv => whnf
    refine call_of [] (kC) (by rfl) (by rfl) ?_
    conv => whnf
    try (refine And.intro (by repeat first | exact trivial | refine And.intro (by first | rfl | exact trivial) ?_) ?_; conv => whnf)
    refine call_of [] (kD) (by rfl) (by rfl) ?_
    conv => whnf
    try (refine And.intro (by repeat first | exact trivial | refine And.intro (by first | rfl | exact trivial) ?_) ?_; conv => whnf)
    rw [show (r == r) = true by simp]
    conv => whnf
    refine call_of [] (c_nawake) (by rfl) (by rfl) ?_
    conv => whnf
    exact end_of [] (by rfl) (by rfl) (by rfl) (by exact ⟨rfl, rfl⟩)
  have := of_decide_eq_true hd
  have hw : IntKind.i64.wrap ((j : Int) + 1) = ((j + 1 : Nat) : Int) := wrap_i64 (by omega) (by omega)
  have hy := getD_at (show j < L.length by omega) (S.zero .int)
  have hge : L.getD (0 + Int.toNat (j : Int)) (S.zero .int) = L.getD j (S.zero .int) := by rw [Nat.zero_add, Int.toNat_natCast]
  have hj1 : 0 < j → L.getD (j - 1) (S.zero .int) < L.getD j (S.zero .int) := fun h0 => by
    have := hup ⟨j - 1, by omega⟩
    rw [show (j - 1 + 1) = j by omega] at this
    exact this
  generalize L.getD j (S.zero .int) = y at hy hge hj1
  have hnx := any_succ (op := op) hy
  conv => whnf
  cases h0 : decide (0 < (j : Int))
  · have h0' := of_decide_eq_false h0
    obtain rfl : j = 0 := by omega
    rw [show (L.take 0).any (fun x => x == op) = false from rfl] at hnx ⊢
    conv => whnf
    refine ⟨rfl, by omega, by omega, ?_⟩
    conv => whnf
    refine ⟨rfl, by omega, (by decide : 0 + 1 ≤ 1), ?_⟩
    rw [hge]
    conv => whnf
    refine ⟨[0, 1, 2], [], relo_of [0, 1, 2] (by rfl) (by rfl), ?_⟩
    refine ⟨⟨0 + 1, by omega, ?_, rfl⟩, ?_⟩
    · rw [hnx, Bool.false_or]; exact congrArg (lwV L.length op (y == op)) hw
    · show L.length - (IntKind.i64.wrap ((((0 : Nat)) : Int) + 1)).toNat < L.length - (((0 : Nat)) : Int).toNat
      rw [hw]; omega
  have h0' := of_decide_eq_true h0
  have hs1 : IntKind.i64.wrap ((j : Int) - 1) = ((j - 1 : Nat) : Int) := by rw [wrap_i64 (by omega) (by omega)]; omega
  conv => whnf
  refine ⟨rfl, by omega, by omega, ?_⟩
  conv => whnf
  refine ⟨rfl, by omega, (by decide : 0 + 1 ≤ 1), ?_⟩
  rw [hge]
  conv => whnf
  refine ⟨rfl, by rw [hs1]; omega, by rw [hs1]; omega, ?_⟩
  conv => whnf
  refine ⟨rfl, by rw [hs1]; omega, (by decide : 0 + 1 ≤ 1), ?_⟩
  rw [hs1, show L.getD (0 + Int.toNat ((j - 1 : Nat) : Int)) (S.zero .int) = L.getD (j - 1) (S.zero .int) by rw [Nat.zero_add, Int.toNat_natCast]]
  have hlt := hj1 (by omega)
  generalize L.getD (j - 1) (S.zero .int) = z at hlt
  conv => whnf
  rw [show decide (y ≤ z) = false from decide_eq_false (by omega)]
  conv => whnf
  cases hA : (L.take j).any (fun x => x == op)
  · rw [hA] at hnx
    conv => whnf
    refine ⟨rfl, by omega, by omega, ?_⟩
    conv => whnf
    refine ⟨rfl, by omega, (by decide : 0 + 1 ≤ 1), ?_⟩
    rw [hge]
    conv => whnf
    refine ⟨[0, 1, 2], [], relo_of [0, 1, 2] (by rfl) (by rfl), ?_⟩
    refine ⟨⟨j + 1, by omega, ?_, rfl⟩, ?_⟩
    · rw [hnx, Bool.false_or]; exact congrArg (lwV L.length op (y == op)) hw
    · show L.length - (IntKind.i64.wrap ((j : Int) + 1)).toNat < L.length - (j : Int).toNat
      rw [hw]; omega
  · rw [hA] at hnx
    conv => whnf
    refine ⟨[0, 1, 2], [], relo_of [0, 1, 2] (by rfl) (by rfl), ?_⟩
    refine ⟨⟨j + 1, by omega, ?_, rfl⟩, ?_⟩
    · rw [hnx, Bool.true_or]; exact congrArg (lwV L.length op true) hw
    · show L.length - (IntKind.i64.wrap ((j : Int) + 1)).toNat < L.length - (j : Int).toNat
      rw [hw]; omega
end Sh
end Go.Proofs.YtomdfaelgcefdaaGreatDoor
