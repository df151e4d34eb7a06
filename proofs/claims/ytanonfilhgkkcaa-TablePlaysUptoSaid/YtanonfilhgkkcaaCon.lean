/- What the functions of tables compute. -/
import Derived.Test.YtanonfilhgkkcaaShadeB
import Derived.Test.YtanonfilhgkkcaaSh21
namespace Go.Proofs.Ytanonfilhgkkcaa
open Go
namespace Sh

/-- A table's type. -/
structure TT where
  a : Int
  b : Bool
  c : Int
  d : Bool
  e : Int
  f : Int
  g : Bool

def TT.cells (t : TT) : List V := [.int .i64 t.a, .bool t.b, .int .i64 t.c, .bool t.d, .int .u64 t.e, .int .u64 t.f, .bool t.g]
def TT.agg (t : TT) : V := .agg [.int .i64 t.a, .bool t.b, .int .i64 t.c, .bool t.d, .int .u64 t.e, .int .u64 t.f, .bool t.g]

/-- A table. -/
def tab (s : V) (t : TT) : AO KT ElT := .cells [.bool true, .bool false, s, .int .i64 t.a, .bool t.b, .int .i64 t.c, .bool t.d, .int .u64 t.e, .int .u64 t.f, .bool t.g]

theorem wrap_u64 {n : Int} (h0 : 0 ≤ n) (h1 : n ≤ 18446744073709551615) : IntKind.u64.wrap n = n := IntWalk.u64_in _ ⟨h0, h1⟩

theorem wrap_i64 {n : Int} (h0 : -9223372036854775808 ≤ n) (h1 : n ≤ 9223372036854775807) : IntKind.i64.wrap n = n := IntWalk.i64_in _ ⟨h0, h1⟩

set_option maxRecDepth 100000 in
theorem c_isRef (v : Val) : SpecD S 46 [.agg (encVal v)] [] (.bool (v.type == 5)) [] := by
  refine specE ok sh46 rfl ?_
  conv => whnf
  exact end_of [] (by rfl) (by rfl) (by rfl) (by exact ⟨rfl, rfl⟩)

def addV (n j : Int) : List V := [.ptr 0 0, .ptr 2 0, .int .u64 n, .int .u64 j]
def addH (j : Nat) (t : TT) (v : Val) (l : List Val) : Heap KT ElT := [tab (.own .value 1 0 j .whole) t, .row .value l, .cells (encVal v)]

set_option maxRecDepth 100000 in
theorem c_add_nil (n : Nat) (v : Val) (t : TT) (hn : n ≤ 65536) :
    SpecD S 47 [.ptr 0 0, .int .u64 n, .agg (encVal v)] [tab .nils t] (.tup []) [tab (.own .value 1 0 n .whole) t, .row .value (List.replicate n v)] := by
  refine specE ok sh47 rfl ?_
  conv => whnf
  refine loop_of [.cell 0 2 .value] [0, 2, 1] (fun vs H => ∃ j : Nat, j ≤ n ∧ vs = addV n j ∧ H = addH j t v (List.replicate j v))
    (fun vs _ => match vs with | [_, _, _, .int _ j] => n - j.toNat | _ => 0) (by rfl) (by rfl) (by rfl) (by rfl) ⟨0, Nat.zero_le _, rfl, rfl⟩ ?_
  rintro vs H1 ⟨j, hj, rfl, rfl⟩
  conv => whnf
  cases hd : decide ((j : Int) < n)
  · conv => whnf
    have := of_decide_eq_false hd
    obtain rfl : j = n := by omega
    exact end_of [0, 1] (by rfl) (by rfl) (by rfl) (by exact ⟨rfl, rfl⟩)
  · conv => whnf
    refine And.intro (by repeat first | exact trivial | refine And.intro (by first | rfl | exact trivial) ?_) ?_
    conv => whnf
    refine ⟨rfl, by simp, ?_⟩
    conv => whnf
    refine ⟨rfl, by simp, ⟨by unfold maxLen; simp; omega, by simp [S]; omega⟩, rfl, ?_⟩
    conv => whnf
    refine And.intro (by repeat first | exact trivial | refine And.intro (by first | rfl | exact trivial) ?_) ?_
    conv => whnf
    have := of_decide_eq_true hd
    have hw : IntKind.u64.wrap ((j : Int) + 1) = ((j + 1 : Nat) : Int) := wrap_u64 (by omega) (by omega)
    have hx : (List.replicate j v).take j ++ [v] = List.replicate (j + 1) v := by simp [List.replicate_succ']
    refine ⟨[0, 4, 2], [], relo_of [0, 4, 2] (by rfl) (by rfl), ?_⟩
    refine ⟨⟨j + 1, by omega, congrArg (addV n) hw, congrArg (addH (j + 1) t v) hx⟩, ?_⟩
    show n - (IntKind.u64.wrap ((j : Int) + 1)).toNat < n - (j : Int).toNat
    rw [hw]; omega

def refsOf (l : List Val) : List Ref := (l.filter fun v => v.type == 5).map (·.ref)

theorem refsOf_succ {l : List Val} {j : Nat} {v : Val} (h : l[j]? = some v) : refsOf (l.take (j + 1)) = refsOf (l.take j) ++ (if v.type == 5 then [v.ref] else []) := by
  rw [List.take_add_one, h]
  simp only [refsOf, Option.toList, List.filter_append, List.map_append, List.filter_cons, List.filter_nil]
  split <;> simp_all

theorem refsOf_le (l : List Val) : (refsOf l).length ≤ l.length := by
  simp only [refsOf, List.length_map]
  exact List.length_filter_le _ _

def refV (l : List Val) (m : Nat) (j : Int) : List V := [.own .ref 0 0 m .whole, .imm .value l, .int .i64 l.length, .int .i64 j]
def refH (r : List Ref) : Heap KT ElT := [.row .ref r]

set_option maxRecDepth 100000 in
theorem c_refs (l : List Val) (hl : l.length ≤ 1048576) : SpecD S 50 [.imm .value l] [] (.own .ref 0 0 (refsOf l).length .whole) [.row .ref (refsOf l)] := by
  refine specE ok sh50 rfl ?_
  conv => whnf
  refine loop_of [.slot 3 .ref] [0] (fun vs H => ∃ j : Nat, j ≤ l.length ∧ vs = refV l (refsOf (l.take j)).length j ∧ H = refH (refsOf (l.take j)))
    (fun vs _ => match vs with | [_, _, _, .int _ j] => l.length - j.toNat | _ => 0) (by rfl) (by rfl) (by rfl) (by rfl) ⟨0, Nat.zero_le _, rfl, rfl⟩ ?_
  rintro vs H1 ⟨j, hj, rfl, rfl⟩
  conv => whnf
  cases hd : decide ((j : Int) < l.length)
  · conv => whnf
    have := of_decide_eq_false hd
    obtain rfl : j = l.length := by omega
    rw [List.take_length]
    exact end_of [0] (by rfl) (by rfl) (by rfl) (by exact ⟨rfl, rfl⟩)
  · conv => whnf
    have hlt := of_decide_eq_true hd
    have hj' : j < l.length := by omega
    have hv : l[j]? = some l[j] := List.getElem?_eq_getElem hj'
    refine ⟨rfl, by omega, by omega, ?_⟩
    conv => whnf
    refine ⟨by simpa using hj', by decide, ?_⟩
    rw [show l.getD (Int.toNat (j : Int)) (S.zero .value) = l[j] by simp [hj']]
    generalize l[j] = v at hv
    conv => whnf
    refine call_of [] (c_isRef v) (by rfl) (by rfl) ?_
    conv => whnf
    have hw : IntKind.i64.wrap ((j : Int) + 1) = ((j + 1 : Nat) : Int) := wrap_i64 (by omega) (by omega)
    have hr := refsOf_succ hv
    have hm : l.length - (IntKind.i64.wrap ((j : Int) + 1)).toNat < l.length - (j : Int).toNat := by rw [hw]; omega
    have hrl : (refsOf (l.take j)).length ≤ 1048576 := Nat.le_trans (Nat.le_trans (refsOf_le _) (by simp; omega)) hl
    cases hf : v.type == 5
    · conv => whnf
      rw [hf] at hr
      refine ⟨[0], [], relo_of [0] (by rfl) (by rfl), ?_⟩
      refine ⟨⟨j + 1, by omega, ?_, congrArg refH (by rw [hr]; simp)⟩, hm⟩
      rw [hr]
      exact (congrArg (refV l (refsOf (l.take j)).length) hw).trans (by simp)
    · conv => whnf
      refine ⟨rfl, by simp, ?_⟩
      conv => whnf
      refine ⟨rfl, by simp, ⟨by unfold maxLen; simp; omega, by simp [S]; omega⟩, rfl, ?_⟩
      conv => whnf
      rw [hf, if_pos rfl] at hr
      refine ⟨[3], [], relo_of [3] (by rfl) (by rfl), ?_⟩
      refine ⟨⟨j + 1, by omega, ?_, ?_⟩, hm⟩
      · show refV l ((refsOf (l.take j)).length + 1) (IntKind.i64.wrap ((j : Int) + 1)) = _
        rw [hw, hr]; simp
      · show refH ((refsOf (l.take j)).take (refsOf (l.take j)).length ++ [v.ref]) = _
        rw [hr, List.take_length]

/-! ### refs of the law: the same references? -/
def sameV (a : List Ref) (j : Int) : List V := [.imm .ref a, .imm .ref a, .int .i64 j]

set_option maxRecDepth 100000 in
theorem c_same (a : List Ref) (ha : a.length ≤ 1048576) : SpecD S 9 [.imm .ref a, .imm .ref a] [] (.bool true) [] := by
  refine specE ok sh9 rfl ?_
  conv => whnf
  cases hl : ((a.length : Int) != (a.length : Int))
  rotate_left
  · simp at hl
  conv => whnf
  refine loop_of [] [] (fun vs H => ∃ j : Nat, j ≤ a.length ∧ vs = sameV a j ∧ H = [])
    (fun vs _ => match vs with | [_, _, .int _ j] => a.length - j.toNat | _ => 0) (by rfl) (by rfl) (by rfl) (by rfl) ⟨0, Nat.zero_le _, rfl, rfl⟩ ?_
  rintro vs H1 ⟨j, hj, rfl, rfl⟩
  conv => whnf
  cases hd : decide ((j : Int) < a.length)
  · conv => whnf
    exact end_of [] (by rfl) (by rfl) (by rfl) (by exact ⟨rfl, rfl⟩)
  · conv => whnf
    have hlt := of_decide_eq_true hd
    have hj' : j < a.length := by omega
    have hw : IntKind.i64.wrap ((j : Int) + 1) = ((j + 1 : Nat) : Int) := wrap_i64 (by omega) (by omega)
    have hg : a.getD (Int.toNat (j : Int)) (S.zero .ref) = a[j] := by simp [hj']
    refine ⟨rfl, by omega, by omega, ?_⟩
    conv => whnf
    refine ⟨by simpa using hj', by decide, ?_⟩
    rw [hg]
    generalize a[j] = v at hg
    conv => whnf
    refine ⟨rfl, by omega, by omega, ?_⟩
    conv => whnf
    refine ⟨by simpa using hj', by decide, ?_⟩
    rw [hg]
    conv => whnf
    cases hq : (!(v.kind == v.kind && (v.addr == v.addr && (v.out == v.out && true))))
    rotate_left
    · simp at hq
    conv => whnf
    refine ⟨[], [], relo_of [] (by rfl) (by rfl), ?_⟩
    refine ⟨⟨j + 1, by omega, congrArg (sameV a) hw, rfl⟩, ?_⟩
    show a.length - (IntKind.i64.wrap ((j : Int) + 1)).toNat < a.length - (j : Int).toNat
    rw [hw]; omega

/-! ### same -/
def sameL (n fr k : Nat) (v u : Val) : List Ref := (List.range n).map fun i => if fr ≤ i ∧ i < fr + k then v.ref else u.ref

theorem sameL_succ (n fr k : Nat) (v u : Val) : sameL (n + 1) fr k v u = sameL n fr k v u ++ [if fr ≤ n ∧ n < fr + k then v.ref else u.ref] := by
  simp [sameL, List.range_succ]

theorem sameL_len (n fr k : Nat) (v u : Val) : (sameL n fr k v u).length = n := by simp [sameL]

def smV (n fr k j : Int) (m : Nat) : List V := [.int .u64 n, .int .u64 fr, .int .u64 k, .ptr 0 0, .ptr 1 0, .own .ref 2 0 m .whole, .int .u64 j]
def smH (v u : Val) (r : List Ref) : Heap KT ElT := [.cells (encVal v), .cells (encVal u), .row .ref r]

set_option maxRecDepth 100000 in
theorem c_mk (n fr k : Nat) (v u : Val) (hn : n ≤ 65536) (hf : fr ≤ 65536) (hk : k ≤ 65536) :
    SpecD S 11 [.int .u64 n, .int .u64 fr, .int .u64 k, .agg (encVal v), .agg (encVal u)] [] (.own .ref 0 0 n .whole) [.row .ref (sameL n fr k v u)] := by
  refine specE ok sh11 rfl ?_
  conv => whnf
  refine loop_of [.slot 11 .ref] [0, 1, 2] (fun vs H => ∃ j : Nat, j ≤ n ∧ vs = smV n fr k j j ∧ H = smH v u (sameL j fr k v u))
    (fun vs _ => match vs with | [_, _, _, _, _, _, .int _ j] => n - j.toNat | _ => 0) (by rfl) (by rfl) (by rfl) (by rfl) ⟨0, Nat.zero_le _, rfl, rfl⟩ ?_
  rintro vs H1 ⟨j, hj, rfl, rfl⟩
  conv => whnf
  cases hd : decide ((j : Int) < n)
  · conv => whnf
    have := of_decide_eq_false hd
    obtain rfl : j = n := by omega
    exact end_of [2] (by rfl) (by rfl) (by rfl) (by exact ⟨rfl, rfl⟩)
  · conv => whnf
    have hlt := of_decide_eq_true hd
    have hw : IntKind.u64.wrap ((j : Int) + 1) = ((j + 1 : Nat) : Int) := wrap_u64 (by omega) (by omega)
    have hm : n - (IntKind.u64.wrap ((j : Int) + 1)).toNat < n - (j : Int).toNat := by rw [hw]; omega
    have hs := sameL_succ j fr k v u
    have hsl := sameL_len j fr k v u
    cases h1 : decide ((fr : Int) ≤ j)
    · conv => whnf
      refine ⟨rfl, by simp, ?_⟩
      conv => whnf
      refine ⟨rfl, by rw [hsl]; simp, ⟨by unfold maxLen; simp; omega, by simp [S]; omega⟩, rfl, ?_⟩
      conv => whnf
      have hx : smH v u ((sameL j fr k v u).take j ++ [u.ref]) = smH v u (sameL (j + 1) fr k v u) := by
        have := of_decide_eq_false h1
        rw [hs, if_neg (by omega), List.take_of_length_le (by omega)]
      refine ⟨[0, 1, 4], [], relo_of [0, 1, 4] (by rfl) (by rfl), ?_⟩
      refine ⟨⟨j + 1, by omega, congrArg (fun x => smV n fr k x (j + 1)) hw, hx⟩, hm⟩
    · conv => whnf
      have hw2 : IntKind.u64.wrap ((fr : Int) + k) = ((fr + k : Nat) : Int) := wrap_u64 (by omega) (by omega)
      rw [hw2]
      cases h2 : decide ((j : Int) < (fr + k : Nat))
      · conv => whnf
        refine ⟨rfl, by simp, ?_⟩
        conv => whnf
        refine ⟨rfl, by rw [hsl]; simp, ⟨by unfold maxLen; simp; omega, by simp [S]; omega⟩, rfl, ?_⟩
        conv => whnf
        have hx : smH v u ((sameL j fr k v u).take j ++ [u.ref]) = smH v u (sameL (j + 1) fr k v u) := by
          have := of_decide_eq_false h2
          rw [hs, if_neg (by omega), List.take_of_length_le (by omega)]
        refine ⟨[0, 1, 4], [], relo_of [0, 1, 4] (by rfl) (by rfl), ?_⟩
        refine ⟨⟨j + 1, by omega, congrArg (fun x => smV n fr k x (j + 1)) hw, hx⟩, hm⟩
      · conv => whnf
        refine ⟨rfl, by simp, ?_⟩
        conv => whnf
        refine ⟨rfl, by rw [hsl]; simp, ⟨by unfold maxLen; simp; omega, by simp [S]; omega⟩, rfl, ?_⟩
        conv => whnf
        have hx : smH v u ((sameL j fr k v u).take j ++ [v.ref]) = smH v u (sameL (j + 1) fr k v u) := by
          have := of_decide_eq_true h1
          have := of_decide_eq_true h2
          rw [hs, if_pos (by omega), List.take_of_length_le (by omega)]
        refine ⟨[0, 1, 4], [], relo_of [0, 1, 4] (by rfl) (by rfl), ?_⟩
        refine ⟨⟨j + 1, by omega, congrArg (fun x => smV n fr k x (j + 1)) hw, hx⟩, hm⟩
end Sh
end Go.Proofs.Ytanonfilhgkkcaa
