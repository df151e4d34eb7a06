/- What the functions of segments compute, part 2. -/
import Derived.Test.YtanonfilhgkkcaaSeg
namespace Go.Proofs.Ytanonfilhgkkcaa
open Go
namespace Sh

def allT (l : List Val) : Bool := l.all fun v => v.type == 5

theorem allT_no {l : List Val} {j : Nat} (h : j < l.length) (hv : (l[j].type == 5) = false) : allT l = false := by
  cases ha : allT l
  · rfl
  · have := List.all_eq_true.1 ha _ (List.getElem_mem h)
    rw [hv] at this; cases this

theorem allT_succ {l : List Val} {j : Nat} (h : j < l.length) (hv : (l[j].type == 5) = true) (ha : allT (l.take j) = true) : allT (l.take (j + 1)) = true := by
  simp only [allT, List.take_add_one, List.getElem?_eq_getElem h, List.all_append, Option.toList, List.all_cons, List.all_nil, Bool.and_true, Bool.and_eq_true]
  exact ⟨ha, hv⟩

set_option maxRecDepth 100000 in
theorem c_allRefsB (l : List Val) (hl : l.length ≤ 1048576) : SpecD S 52 [.imm .value l] [] (.bool (allT l)) [] := by
  refine specE ok sh52 rfl ?_
  conv => whnf
  refine loop_of [] [] (fun vs H => ∃ j : Nat, j ≤ l.length ∧ allT (l.take j) = true ∧ vs = arV l j ∧ H = [])
    (fun vs _ => match vs with | [_, _, .int _ j] => l.length - j.toNat | _ => 0) (by rfl) (by rfl) (by rfl) (by rfl) ⟨0, Nat.zero_le _, rfl, rfl, rfl⟩ ?_
  rintro vs H1 ⟨j, hj, ha, rfl, rfl⟩
  conv => whnf
  cases hd : decide ((j : Int) < l.length)
  · conv => whnf
    have := of_decide_eq_false hd
    obtain rfl : j = l.length := by omega
    rw [List.take_length] at ha
    exact end_of [] (by rfl) (by rfl) (by rfl) ⟨congrArg AV.bool ha.symm, rfl⟩
  · conv => whnf
    have hlt := of_decide_eq_true hd
    have hj' : j < l.length := by omega
    have h1 := @allT_no l j hj'
    have h2 := @allT_succ l j hj'
    have hw : IntKind.i64.wrap ((j : Int) + 1) = ((j + 1 : Nat) : Int) := wrap_i64 (by omega) (by omega)
    refine ⟨rfl, by omega, by omega, ?_⟩
    conv => whnf
    refine ⟨by simpa using hj', by decide, ?_⟩
    rw [show l.getD (Int.toNat (j : Int)) (S.zero .value) = l[j] by simp [hj']]
    generalize l[j] = v at h1 h2
    conv => whnf
    refine call_of [] (c_isRef v) (by rfl) (by rfl) ?_
    conv => whnf
    cases hv : v.type == 5
    · conv => whnf
      exact end_of [] (by rfl) (by rfl) (by rfl) ⟨congrArg AV.bool (h1 hv).symm, rfl⟩
    · conv => whnf
      refine ⟨[], [], relo_of [] (by rfl) (by rfl), ?_⟩
      refine ⟨⟨j + 1, by omega, h2 hv ha, congrArg (arV l) hw, rfl⟩, ?_⟩
      show l.length - (IntKind.i64.wrap ((j : Int) + 1)).toNat < l.length - (j : Int).toNat
      rw [hw]; omega

def rrV (l : List Val) (j : Int) : List V := [.imm .value l, .int .i64 j]

set_option maxRecDepth 100000 in
theorem c_allR (l : List Val) (hl : l.length ≤ 1048576) : SpecD S 54 [.imm .value l] [] (.bool (allT l)) [] := by
  refine specE ok sh54 rfl ?_
  conv => whnf
  refine loop_of [] [] (fun vs H => ∃ j : Nat, j ≤ l.length ∧ allT (l.take j) = true ∧ vs = rrV l j ∧ H = [])
    (fun vs _ => match vs with | [_, .int _ j] => l.length - j.toNat | _ => 0) (by rfl) (by rfl) (by rfl) (by rfl) ⟨0, Nat.zero_le _, rfl, rfl, rfl⟩ ?_
  rintro vs H1 ⟨j, hj, ha, rfl, rfl⟩
  conv => whnf
  cases hd : decide ((j : Int) < l.length)
  · conv => whnf
    have := of_decide_eq_false hd
    obtain rfl : j = l.length := by omega
    rw [List.take_length] at ha
    exact end_of [] (by rfl) (by rfl) (by rfl) ⟨congrArg AV.bool ha.symm, rfl⟩
  · conv => whnf
    have hlt := of_decide_eq_true hd
    have hj' : j < l.length := by omega
    have h1 := @allT_no l j hj'
    have h2 := @allT_succ l j hj'
    have hw : IntKind.i64.wrap ((j : Int) + 1) = ((j + 1 : Nat) : Int) := wrap_i64 (by omega) (by omega)
    refine ⟨rfl, by omega, by omega, ?_⟩
    conv => whnf
    refine ⟨by simpa using hj', by decide, ?_⟩
    rw [show l.getD (Int.toNat (j : Int)) (S.zero .value) = l[j] by simp [hj']]
    generalize l[j] = v at h1 h2
    conv => whnf
    cases hv : v.type == 5
    · simp only [bne, hv]
      conv => whnf
      exact end_of [] (by rfl) (by rfl) (by rfl) ⟨congrArg AV.bool (h1 hv).symm, rfl⟩
    · simp only [bne, hv]
      conv => whnf
      refine ⟨[], [], relo_of [] (by rfl) (by rfl), ?_⟩
      refine ⟨⟨j + 1, by omega, h2 hv ha, congrArg (rrV l) hw, rfl⟩, ?_⟩
      show l.length - (IntKind.i64.wrap ((j : Int) + 1)).toNat < l.length - (j : Int).toNat
      rw [hw]; omega

def elem (l : List Val) : Heap KT ElT := [cell3 (.own .value 1 0 l.length .whole), .row .value l]

set_option maxRecDepth 100000 in
theorem c_newElem (l : List Val) (hl : l.length ≤ 1048576) (ha : allT l = true) : SpecD S 14 [.imm .value l] [] (.tup [.ptr 0 0, .int .i64 0]) (elem l) := by
  have h := c_allRefsB l hl
  rw [ha] at h
  refine specE ok sh14 rfl ?_
  conv => whnf
  refine call_of [] (h) (by rfl) (by rfl) ?_
  conv => whnf
  refine call_of [] (c_held l hl) (by rfl) (by rfl) ?_
  conv => whnf
  exact end_of [1, 0] (by rfl) (by rfl) (by rfl) (by exact ⟨rfl, rfl⟩)

set_option maxRecDepth 100000 in
theorem c_newElem0 (l : List Val) (hl : l.length ≤ 1048576) (ha : allT l = false) : SpecD S 14 [.imm .value l] [] (.tup [.nilp, .int .i64 1]) [] := by
  have h := c_allRefsB l hl
  rw [ha] at h
  refine specE ok sh14 rfl ?_
  conv => whnf
  refine call_of [] (h) (by rfl) (by rfl) ?_
  conv => whnf
  exact end_of [] (by rfl) (by rfl) (by rfl) (by exact ⟨rfl, rfl⟩)

def relem (l : List Val) : Heap KT ElT := [.cells [.own .value 1 0 l.length .whole, .bool false], .row .value l]

set_option maxRecDepth 100000 in
theorem c_copied (l : List Val) (hl : l.length ≤ 1048576) : SpecD S 55 [.imm .value l] [] (.own .value 0 0 l.length .whole) [.row .value l] := by
  refine specE ok sh55 rfl ?_
  conv => whnf
  refine ⟨⟨by show l.length ≤ maxLen; unfold maxLen; omega, by show l.length * 40 ≤ _; omega⟩, ?_⟩
  conv => whnf
  exact end_of [0] (by rfl) (by rfl) (by rfl) (by exact ⟨rfl, rfl⟩)

set_option maxRecDepth 100000 in
theorem c_rnewElem (l : List Val) (hl : l.length ≤ 1048576) (ha : allT l = true) : SpecD S 15 [.imm .value l] [] (.tup [.ptr 0 0, .int .i64 0]) (relem l) := by
  have h := c_allR l hl
  rw [ha] at h
  refine specE ok sh15 rfl ?_
  conv => whnf
  refine call_of [] (h) (by rfl) (by rfl) ?_
  conv => whnf
  refine call_of [] (c_copied l hl) (by rfl) (by rfl) ?_
  conv => whnf
  try (refine And.intro (by repeat first | exact trivial | refine And.intro (by first | rfl | exact trivial) ?_) ?_; conv => whnf)
  exact end_of [1, 0] (by rfl) (by rfl) (by rfl) (by exact ⟨rfl, rfl⟩)

set_option maxRecDepth 100000 in
theorem c_rnewElem0 (l : List Val) (hl : l.length ≤ 1048576) (ha : allT l = false) : SpecD S 15 [.imm .value l] [] (.tup [.nilp, .int .i64 1]) [] := by
  have h := c_allR l hl
  rw [ha] at h
  refine specE ok sh15 rfl ?_
  conv => whnf
  refine call_of [] (h) (by rfl) (by rfl) ?_
  conv => whnf
  exact end_of [] (by rfl) (by rfl) (by rfl) (by exact ⟨rfl, rfl⟩)

def data (l : List Int) : Heap KT ElT := [cell3 (.own .u8 1 0 l.length .whole), .row .u8 l]

set_option maxRecDepth 100000 in
theorem c_newData (l : List Int) (hl : l.length ≤ 1048576) : SpecD S 16 [.imm .u8 l] [] (.ptr 0 0) (data l) := by
  refine specE ok sh16 rfl ?_
  conv => whnf
  refine call_of [] (c_heldB l hl) (by rfl) (by rfl) ?_
  conv => whnf
  try (refine And.intro (by repeat first | exact trivial | refine And.intro (by first | rfl | exact trivial) ?_) ?_; conv => whnf)
  exact end_of [1, 0] (by rfl) (by rfl) (by rfl) (by exact ⟨rfl, rfl⟩)

/-! ### values of the law: the same values? -/
def valV (a : List Val) (j : Int) : List V := [.imm .value a, .imm .value a, .int .i64 j]

set_option maxRecDepth 100000 in
theorem c_values (a : List Val) (ha : a.length ≤ 1048576) : SpecD S 21 [.imm .value a, .imm .value a] [] (.bool true) [] := by
  refine specE ok sh21 rfl ?_
  conv => whnf
  cases hl : ((a.length : Int) != (a.length : Int))
  rotate_left
  · simp at hl
  conv => whnf
  refine loop_of [] [] (fun vs H => ∃ j : Nat, j ≤ a.length ∧ vs = valV a j ∧ H = [])
    (fun vs _ => match vs with | [_, _, .int _ j] => a.length - j.toNat | _ => 0) (by rfl) (by rfl) (by rfl) (by rfl) ⟨0, Nat.zero_le _, rfl, rfl⟩ ?_
  rintro vs H1 ⟨j, hj, rfl, rfl⟩
  conv => whnf
  cases hd : decide ((j : Int) < a.length)
  · conv => whnf
    exact end_of [] (by rfl) (by rfl) (by rfl) (by exact ⟨rfl, rfl⟩)
  · conv => whnf
    have hlt := of_decide_eq_true hd
    have hj' : j < a.length := by omega
    have hw : IntKind.i64.wrap ((j : Int) + 1) = ((j + 1 : Nat) : Int) := wrap_i64 (by omega) (by omega)
    have hg : a.getD (Int.toNat (j : Int)) (S.zero .value) = a[j] := by simp [hj']
    refine ⟨rfl, by omega, by omega, ?_⟩
    conv => whnf
    refine ⟨by simpa using hj', by decide, ?_⟩
    rw [hg]
    generalize a[j] = v at hg
    conv => whnf
    refine ⟨rfl, by omega, by omega, ?_⟩
    conv => whnf
    refine ⟨by simpa using hj', by decide, ?_⟩
    rw [hg]
    conv => whnf
    cases hq : (!(v.type == v.type && (v.bits == v.bits && (v.ref.kind == v.ref.kind && (v.ref.addr == v.ref.addr && (v.ref.out == v.ref.out && true))))))
    rotate_left
    · simp at hq
    conv => whnf
    refine ⟨[], [], relo_of [] (by rfl) (by rfl), ?_⟩
    refine ⟨⟨j + 1, by omega, congrArg (valV a) hw, rfl⟩, ?_⟩
    show a.length - (IntKind.i64.wrap ((j : Int) + 1)).toNat < a.length - (j : Int).toNat
    rw [hw]; omega

/-! ### Refs of the reference -/
def rRefV (l : List Val) (m : Nat) (j : Int) : List V := [.imm .value l, .own .ref 0 0 m .whole, .int .i64 j]

set_option maxRecDepth 100000 in
theorem c_rRefs (l : List Val) (hl : l.length ≤ 1048576) : SpecD S 26 [.imm .value l] [] (.own .ref 0 0 (refsOf l).length .whole) [.row .ref (refsOf l)] := by
  refine specE ok sh26 rfl ?_
  conv => whnf
  refine loop_of [.slot 3 .ref] [0] (fun vs H => ∃ j : Nat, j ≤ l.length ∧ vs = rRefV l (refsOf (l.take j)).length j ∧ H = refH (refsOf (l.take j)))
    (fun vs _ => match vs with | [_, _, .int _ j] => l.length - j.toNat | _ => 0) (by rfl) (by rfl) (by rfl) (by rfl) ⟨0, Nat.zero_le _, rfl, rfl⟩ ?_
  rintro vs H1 ⟨j, hj, rfl, rfl⟩
  conv => whnf
  cases hd : decide ((j : Int) < l.length)
  · conv => whnf
    have := of_decide_eq_false hd
    obtain rfl : j = l.length := by omega
    rw [List.take_length]
    exact end_of [0] (by rfl) (by rfl) (by rfl) (by exact ⟨rfl, rfl⟩)
  · conv => whnf
    have hlt := of_decide_eq_true hd
    have hj' : j < l.length := by omega
    have hv : l[j]? = some l[j] := List.getElem?_eq_getElem hj'
    have hw : IntKind.i64.wrap ((j : Int) + 1) = ((j + 1 : Nat) : Int) := wrap_i64 (by omega) (by omega)
    have hr := refsOf_succ hv
    have hm : l.length - (IntKind.i64.wrap ((j : Int) + 1)).toNat < l.length - (j : Int).toNat := by rw [hw]; omega
    have hrl : (refsOf (l.take j)).length ≤ 1048576 := Nat.le_trans (Nat.le_trans (refsOf_le _) (by simp; omega)) hl
    have hg : l.getD (Int.toNat (j : Int)) (S.zero .value) = l[j] := by simp [hj']
    refine ⟨rfl, by omega, by omega, ?_⟩
    conv => whnf
    refine ⟨by simpa using hj', by decide, ?_⟩
    rw [hg]
    generalize l[j] = v at hv hg hr
    conv => whnf
    cases hf : v.type == 5
    · simp only [hf]
      conv => whnf
      rw [hf] at hr
      refine ⟨[0], [], relo_of [0] (by rfl) (by rfl), ?_⟩
      refine ⟨⟨j + 1, by omega, ?_, congrArg refH (by rw [hr]; simp)⟩, hm⟩
      rw [hr]
      exact (congrArg (rRefV l (refsOf (l.take j)).length) hw).trans (by simp)
    · simp only [hf]
      conv => whnf
      refine ⟨rfl, by omega, by omega, ?_⟩
      conv => whnf
      refine ⟨by simpa using hj', by decide, ?_⟩
      rw [hg]
      conv => whnf
      refine ⟨rfl, by simp, ?_⟩
      conv => whnf
      refine ⟨rfl, by simp, ⟨by unfold maxLen; simp; omega, by simp [S]; omega⟩, rfl, ?_⟩
      conv => whnf
      rw [hf, if_pos rfl] at hr
      refine ⟨[2], [], relo_of [2] (by rfl) (by rfl), ?_⟩
      refine ⟨⟨j + 1, by omega, ?_, ?_⟩, hm⟩
      · show rRefV l ((refsOf (l.take j)).length + 1) (IntKind.i64.wrap ((j : Int) + 1)) = _
        rw [hw, hr]; simp
      · show refH ((refsOf (l.take j)).take (refsOf (l.take j)).length ++ [v.ref]) = _
        rw [hr, List.take_length]

/-! ### References laid among values -/
def layR : List Val → List Ref → List Val
  | [], _ => []
  | v :: l, r => if v.type == 5 then ⟨v.type, v.bits, r.headD ⟨0, 0, false⟩⟩ :: layR l r.tail else v :: layR l r

theorem refsOf_cons (v : Val) (l : List Val) : refsOf (v :: l) = if v.type == 5 then v.ref :: refsOf l else refsOf l := by
  simp only [refsOf, List.filter_cons]
  split <;> simp

theorem layR_append : ∀ (a b : List Val) (r : List Ref), layR (a ++ b) r = layR a r ++ layR b (r.drop (refsOf a).length)
  | [], b, r => by simp [layR, refsOf]
  | v :: a, b, r => by
    simp only [List.cons_append, layR, refsOf_cons]
    split
    · rw [layR_append a b r.tail, List.length_cons, List.cons_append, List.drop_tail]
    · rw [layR_append a b r, List.cons_append]

theorem layR_len : ∀ (a : List Val) (r : List Ref), (layR a r).length = a.length
  | [], r => rfl
  | v :: a, r => by simp only [layR]; split <;> simp [layR_len a]

theorem refsOf_append (a b : List Val) : refsOf (a ++ b) = refsOf a ++ refsOf b := by simp [refsOf]

theorem layR_succ {l : List Val} {j : Nat} {v : Val} (h : l[j]? = some v) (r : List Ref) :
    layR (l.take (j + 1)) r = layR (l.take j) r ++ [if v.type == 5 then ⟨v.type, v.bits, (r.drop (refsOf (l.take j)).length).headD ⟨0, 0, false⟩⟩ else v] := by
  rw [List.take_add_one, h, layR_append]
  simp only [Option.toList, layR]
  split <;> rfl

theorem refsOf_lt {l : List Val} {j : Nat} {v : Val} (h : l[j]? = some v) (hv : (v.type == 5) = true) : (refsOf (l.take j)).length < (refsOf l).length := by
  have h1 := refsOf_append (l.take (j + 1)) (l.drop (j + 1))
  rw [List.take_append_drop, refsOf_succ h, hv] at h1
  rw [h1]; simp

def lyW (l : List Val) (r : List Ref) (j : Int) : List V := [.own .value 0 0 l.length .whole, .imm .ref r, .int .i64 l.length, .int .i64 j]
def lyV (l : List Val) (r : List Ref) (c : Nat) (j : Int) : List V := lyW l (r.drop c) j
def lyH (x : List Val) : Heap KT ElT := [.row .value x]

set_option maxRecDepth 100000 in
theorem c_lay (l : List Val) (r : List Ref) (hl : l.length ≤ 1048576) (hr : (refsOf l).length = r.length) : SpecD S 60 [.own .value 0 0 l.length .whole, .imm .ref r] [.row .value l] (.int .i64 0) [.row .value (layR l r)] := by
  have hx : (l.drop 0).take l.length = l := by rw [List.drop_zero, List.take_length]
  refine specE ok sh60 rfl ?_
  conv => whnf
  refine callL_of [] [0] (c_refs ((l.drop 0).take l.length) (by rw [hx]; exact hl)) (by rfl) (by rfl) ?_ ?_ (by exact ⟨rfl, rfl⟩) ?_
  · exact ⟨⟨rfl, by omega⟩, trivial⟩
  · trivial
  rw [hx]
  conv => whnf
  cases hne : (((refsOf l).length : Int) != (r.length : Int))
  rotate_left
  · rw [hr] at hne; simp at hne
  conv => whnf
  refine loop_of [] [0] (fun vs H => ∃ j : Nat, j ≤ l.length ∧ vs = lyV l r (refsOf (l.take j)).length j ∧ H = lyH (layR (l.take j) r ++ l.drop j))
    (fun vs _ => match vs with | [_, _, _, .int _ j] => l.length - j.toNat | _ => 0) (by rfl) (by rfl) (by rfl) (by rfl) ⟨0, Nat.zero_le _, rfl, rfl⟩ ?_
  rintro vs H1 ⟨j, hj, rfl, rfl⟩
  conv => whnf
  cases hd : decide ((j : Int) < l.length)
  · conv => whnf
    have := of_decide_eq_false hd
    obtain rfl : j = l.length := by omega
    refine end_of [0] (by rfl) (by rfl) (by rfl) ⟨rfl, ?_⟩
    show lyH (layR (l.take l.length) r ++ l.drop l.length) = lyH (layR l r)
    rw [List.take_length, List.drop_length, List.append_nil]
  · conv => whnf
    have hlt := of_decide_eq_true hd
    have hj' : j < l.length := by omega
    have hv : l[j]? = some l[j] := List.getElem?_eq_getElem hj'
    have hw : IntKind.i64.wrap ((j : Int) + 1) = ((j + 1 : Nat) : Int) := wrap_i64 (by omega) (by omega)
    have hm : l.length - (IntKind.i64.wrap ((j : Int) + 1)).toNat < l.length - (j : Int).toNat := by rw [hw]; omega
    have hs := layR_succ hv r
    have hc := refsOf_succ hv
    have hlt' := @refsOf_lt l j l[j] hv
    have hpl : (layR (l.take j) r).length = j := by rw [layR_len]; simp; omega
    have hlen : (layR (l.take j) r ++ l.drop j).length = l.length := by simp [hpl]; omega
    have hdr : l.drop j = l[j] :: l.drop (j + 1) := List.drop_eq_getElem_cons hj'
    have hg : (layR (l.take j) r ++ l.drop j).getD (Int.toNat (j : Int)) (S.zero .value) = l[j] := by
      rw [show Int.toNat (j : Int) = j by omega, List.getD_eq_getElem?_getD, List.getElem?_append_right (by omega), hpl, Nat.sub_self, hdr]; rfl
    generalize l[j] = v at hv hs hc hg hlt' hdr
    refine ⟨rfl, by omega, by omega, ?_⟩
    conv => whnf
    refine ⟨rfl, by rw [hlen]; omega, by decide, ?_⟩
    conv => whnf
    simp only [show 0 + Int.toNat (j : Int) = Int.toNat (j : Int) from Nat.zero_add _, hg]
    conv => whnf
    refine call_of [] (c_isRef v) (by rfl) (by rfl) ?_
    conv => whnf
    cases hf : v.type == 5
    · conv => whnf
      rw [hf] at hs hc
      refine ⟨[0], [], relo_of [0] (by rfl) (by rfl), ?_⟩
      refine ⟨⟨j + 1, by omega, ?_, ?_⟩, hm⟩
      · rw [hc]
        exact (congrArg (lyV l r (refsOf (l.take j)).length) hw).trans (by simp)
      · show lyH (layR (l.take j) r ++ l.drop j) = _
        rw [hs, hdr]; simp
    · conv => whnf
      have hlt2 := hlt' hf
      rw [hr] at hlt2
      have hdl : 0 < (r.drop (refsOf (l.take j)).length).length := by simp; omega
      refine ⟨rfl, by omega, by simp; omega, ?_⟩
      conv => whnf
      refine ⟨hdl, by decide, ?_⟩
      conv => whnf
      refine ⟨rfl, by omega, by omega, ?_⟩
      conv => whnf
      refine ⟨rfl, by rw [hlen]; omega, (by decide : 2 + 3 ≤ 5), ?_⟩
      simp only [show 0 + Int.toNat (j : Int) = Int.toNat (j : Int) from Nat.zero_add _, hg]
      conv => whnf
      refine ⟨rfl, by omega, by simp; omega, by simp, rfl, ?_⟩
      conv => whnf
      rw [hf, if_pos rfl] at hs hc
      refine ⟨[0], [], relo_of [0] (by rfl) (by rfl), ?_⟩
      refine ⟨⟨j + 1, by omega, ?_, ?_⟩, hm⟩
      · rw [hc]
        show lyW l (((r.drop (refsOf (l.take j)).length).take (Int.toNat ((r.drop (refsOf (l.take j)).length).length : Int))).drop (Int.toNat 1)) (IntKind.i64.wrap ((j : Int) + 1)) = _
        rw [hw, Int.toNat_natCast, List.take_length, List.drop_drop, List.length_append]
        rfl
      · rw [hs]
        obtain ⟨x, R, hR⟩ := List.exists_cons_of_length_pos hdl
        rw [hR]
        show lyH ((layR (l.take j) r ++ l.drop j).set (Int.toNat (j : Int)) ⟨v.type, v.bits, x⟩) = lyH (layR (l.take j) r ++ [⟨v.type, v.bits, x⟩] ++ l.drop (j + 1))
        rw [Int.toNat_natCast, List.set_append_right _ _ (by omega), hpl, Nat.sub_self, hdr, List.append_assoc]
        rfl

set_option maxRecDepth 100000 in
theorem c_lay0 (l : List Val) (r : List Ref) (hl : l.length ≤ 1048576) (hr : (refsOf l).length ≠ r.length) : SpecD S 60 [.own .value 0 0 l.length .whole, .imm .ref r] [.row .value l] (.int .i64 1) [.row .value l] := by
  have hx : (l.drop 0).take l.length = l := by rw [List.drop_zero, List.take_length]
  refine specE ok sh60 rfl ?_
  conv => whnf
  refine callL_of [] [0] (c_refs ((l.drop 0).take l.length) (by rw [hx]; exact hl)) (by rfl) (by rfl) ?_ ?_ (by exact ⟨rfl, rfl⟩) ?_
  · exact ⟨⟨rfl, by omega⟩, trivial⟩
  · trivial
  rw [hx]
  conv => whnf
  cases hne : (((refsOf l).length : Int) != (r.length : Int))
  · have := bne_eq_false_iff_eq.1 hne
    omega
  conv => whnf
  exact end_of [0] (by rfl) (by rfl) (by rfl) (by exact ⟨rfl, rfl⟩)

set_option maxRecDepth 100000 in
theorem c_eSet (l : List Val) (r : List Ref) (hl : l.length ≤ 1048576) (hr : (refsOf l).length = r.length) : SpecD S 27 [.ptr 0 0, .imm .ref r] (elem l) (.int .i64 0) (elem (layR l r)) := by
  have h := c_lay l r hl hr
  refine specE ok sh27 rfl ?_
  conv => whnf
  refine call_of [1] (h) (by rfl) (by rfl) ?_
  conv => whnf
  refine end_of [0, 1] (by rfl) (by rfl) (by rfl) ⟨rfl, ?_⟩
  unfold elem
  rw [layR_len]
  rfl

set_option maxRecDepth 100000 in
theorem c_eSet0 (l : List Val) (r : List Ref) (hl : l.length ≤ 1048576) (hr : (refsOf l).length ≠ r.length) : SpecD S 27 [.ptr 0 0, .imm .ref r] (elem l) (.int .i64 1) (elem l) := by
  have h := c_lay0 l r hl hr
  refine specE ok sh27 rfl ?_
  conv => whnf
  refine call_of [1] (h) (by rfl) (by rfl) ?_
  conv => whnf
  exact end_of [0, 1] (by rfl) (by rfl) (by rfl) (by exact ⟨rfl, rfl⟩)

set_option maxRecDepth 100000 in
theorem c_eRefs (l : List Val) (hl : l.length ≤ 1048576) : SpecD S 25 [.ptr 0 0] (elem l) (.own .ref 2 0 (refsOf l).length .whole) [cell3 (.own .value 1 0 l.length .whole), .row .value l, .row .ref (refsOf l)] := by
  have hx : (l.drop 0).take l.length = l := by rw [List.drop_zero, List.take_length]
  refine specE ok sh25 rfl ?_
  conv => whnf
  refine call_of [0, 1] (c_items_value l hl) (by rfl) (by rfl) ?_
  conv => whnf
  refine callL_of [] [2] (c_refs ((l.drop 0).take l.length) (by rw [hx]; exact hl)) (by rfl) (by rfl) ?_ ?_ (by exact ⟨rfl, rfl⟩) ?_
  · exact ⟨⟨rfl, by omega⟩, trivial⟩
  · trivial
  rw [hx]
  conv => whnf
  exact end_of [0, 1, 3] (by rfl) (by rfl) (by rfl) (by exact ⟨rfl, rfl⟩)

set_option maxRecDepth 100000 in
theorem c_eRefs0 (l : List Val) : SpecD S 25 [.ptr 0 0] [gone3, .row .value l] (.own .ref 2 0 0 .whole) [gone3, .row .value l, .row .ref []] := by
  refine specE ok sh25 rfl ?_
  conv => whnf
  refine call_of [0, 1] (c_items0_value l) (by rfl) (by rfl) ?_
  conv => whnf
  refine callL_of [] [2] (c_refs [] (by decide)) (by rfl) (by rfl) ?_ ?_ (by exact ⟨rfl, rfl⟩) ?_
  · exact ⟨⟨rfl, by decide⟩, trivial⟩
  · trivial
  conv => whnf
  exact end_of [0, 1, 3] (by rfl) (by rfl) (by rfl) (by exact ⟨rfl, rfl⟩)

/-! ### SetRefs of the reference -/
set_option maxRecDepth 100000 in
theorem c_rSet0 (l : List Val) (r : List Ref) (hl : l.length ≤ 1048576) (hr : (refsOf l).length ≠ r.length) : SpecD S 28 [.imm .value l, .imm .ref r] [] (.tup [.nils, .bool false]) [] := by
  refine specE ok sh28 rfl ?_
  conv => whnf
  refine call_of [] (c_rRefs l hl) (by rfl) (by rfl) ?_
  conv => whnf
  cases hne : (((refsOf l).length : Int) != (r.length : Int))
  · have := bne_eq_false_iff_eq.1 hne
    omega
  conv => whnf
  exact end_of [] (by rfl) (by rfl) (by rfl) (by exact ⟨rfl, rfl⟩)

def rsV (l : List Val) (r : List Ref) (n j : Int) (c : Nat) : List V := [.imm .value l, .imm .ref r, .own .value 0 0 c .whole, .int .i64 n, .int .i64 j]

set_option maxRecDepth 100000 in
theorem c_rSet (l : List Val) (r : List Ref) (hl : l.length ≤ 1048576) (hr : (refsOf l).length = r.length) : SpecD S 28 [.imm .value l, .imm .ref r] [] (.tup [.own .value 0 0 l.length .whole, .bool true]) [.row .value (layR l r)] := by
  refine specE ok sh28 rfl ?_
  conv => whnf
  refine call_of [] (c_rRefs l hl) (by rfl) (by rfl) ?_
  conv => whnf
  cases hne : (((refsOf l).length : Int) != (r.length : Int))
  rotate_left
  · rw [hr] at hne; simp at hne
  conv => whnf
  refine loop_of [.slot 6 .value] [1] (fun vs H => ∃ j : Nat, j ≤ l.length ∧ vs = rsV l r (refsOf (l.take j)).length j j ∧ H = lyH (layR (l.take j) r))
    (fun vs _ => match vs with | [_, _, _, _, .int _ j] => l.length - j.toNat | _ => 0) (by rfl) (by rfl) (by rfl) (by rfl) ⟨0, Nat.zero_le _, rfl, rfl⟩ ?_
  rintro vs H1 ⟨j, hj, rfl, rfl⟩
  conv => whnf
  have hpl : (layR (l.take j) r).length = j := by rw [layR_len]; simp; omega
  cases hd : decide ((j : Int) < l.length)
  · conv => whnf
    have := of_decide_eq_false hd
    obtain rfl : j = l.length := by omega
    rw [List.take_length]
    exact end_of [0] (by rfl) (by rfl) (by rfl) (by exact ⟨rfl, rfl⟩)
  · conv => whnf
    have hlt := of_decide_eq_true hd
    have hj' : j < l.length := by omega
    have hv : l[j]? = some l[j] := List.getElem?_eq_getElem hj'
    have hw : IntKind.i64.wrap ((j : Int) + 1) = ((j + 1 : Nat) : Int) := wrap_i64 (by omega) (by omega)
    have hm : l.length - (IntKind.i64.wrap ((j : Int) + 1)).toNat < l.length - (j : Int).toNat := by rw [hw]; omega
    have hs := layR_succ hv r
    have hc := refsOf_succ hv
    have hlt' := @refsOf_lt l j l[j] hv
    have hg : l.getD (Int.toNat (j : Int)) (S.zero .value) = l[j] := by simp [hj']
    have hcl : (refsOf (l.take j)).length ≤ 1048576 := Nat.le_trans (Nat.le_trans (refsOf_le _) (by simp; omega)) hl
    generalize l[j] = v at hv hs hc hg hlt'
    refine ⟨rfl, by omega, by omega, ?_⟩
    conv => whnf
    refine ⟨by simpa using hj', by decide, ?_⟩
    rw [hg]
    conv => whnf
    cases hf : v.type == 5
    · conv => whnf
      rw [hf] at hs hc
      refine ⟨rfl, by simp, ?_⟩
      conv => whnf
      refine ⟨rfl, by rw [hpl]; simp, ⟨by unfold maxLen; simp; omega, by simp [S]; omega⟩, rfl, ?_⟩
      conv => whnf
      refine ⟨[3], [], relo_of [3] (by rfl) (by rfl), ?_⟩
      refine ⟨⟨j + 1, by omega, ?_, ?_⟩, hm⟩
      · rw [hc]
        exact (congrArg (fun x => rsV l r (refsOf (l.take j)).length x (j + 1)) hw).trans (by simp)
      · show lyH ((layR (l.take j) r).take j ++ [v]) = _
        rw [hs, List.take_of_length_le (by omega)]; simp
    · conv => whnf
      have hlt2 := hlt' hf
      rw [hr] at hlt2
      have hwc : IntKind.i64.wrap (((refsOf (l.take j)).length : Int) + 1) = (((refsOf (l.take j)).length + 1 : Nat) : Int) := wrap_i64 (by omega) (by omega)
      have hR := List.drop_eq_getElem_cons hlt2
      have hgr : r.getD (Int.toNat ((refsOf (l.take j)).length : Int)) (S.zero .ref) = r[(refsOf (l.take j)).length] := by simp [hlt2]
      generalize r[(refsOf (l.take j)).length] = x at hR hgr
      refine ⟨rfl, by omega, by omega, ?_⟩
      conv => whnf
      refine ⟨by rw [Int.toNat_natCast]; exact hlt2, by decide, ?_⟩
      rw [hgr]
      conv => whnf
      refine ⟨rfl, by simp, ?_⟩
      conv => whnf
      refine ⟨rfl, by rw [hpl]; simp, ⟨by unfold maxLen; simp; omega, by simp [S]; omega⟩, rfl, ?_⟩
      conv => whnf
      refine ⟨[3], [], relo_of [3] (by rfl) (by rfl), ?_⟩
      rw [hf, if_pos rfl] at hs hc
      refine ⟨⟨j + 1, by omega, ?_, ?_⟩, hm⟩
      · rw [hc]
        show rsV l r (IntKind.i64.wrap (((refsOf (l.take j)).length : Int) + 1)) (IntKind.i64.wrap ((j : Int) + 1)) (j + 1) = _
        rw [hw, hwc]; simp
      · show lyH ((layR (l.take j) r).take j ++ [⟨v.type, v.bits, x⟩]) = _
        rw [hs, hR, List.take_of_length_le (by omega)]; rfl
end Sh
end Go.Proofs.Ytanonfilhgkkcaa
