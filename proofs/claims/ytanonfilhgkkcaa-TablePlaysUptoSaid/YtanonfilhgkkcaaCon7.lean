/- What the functions of tables compute, part 7: making a table, its references, what both tell. -/
import Derived.Test.YtanonfilhgkkcaaCon6
namespace Go.Proofs.Ytanonfilhgkkcaa
open Go
namespace Sh

def nwOK (T : TT) (v : Val) : Prop := v.type = 5 ∧ T.e ≤ 65536 ∧ (T.g = true → T.e ≤ T.f)

set_option maxRecDepth 100000 in
theorem c_New_no (T : TT) (v : Val) (nok : ¬ nwOK T v) : SpecD S 7 [T.agg, .agg (encVal v)] [] (.tup [.nilp, .int .i64 1]) [] := by
  obtain ⟨ta, tb, tc, td, te, tf, g⟩ := T
  refine specE ok sh7 rfl ?_
  conv => whnf
  refine call_of [] (c_isRef v) (by rfl) (by rfl) ?_
  conv => whnf
  cases hv : v.type == 5
  · conv => whnf
    exact end_of [] (by rfl) (by rfl) (by rfl) (by exact ⟨rfl, rfl⟩)
  conv => whnf
  cases h1 : decide ((65536 : Int) < te)
  rotate_left
  · conv => whnf
    exact end_of [] (by rfl) (by rfl) (by rfl) (by exact ⟨rfl, rfl⟩)
  conv => whnf
  have h1' := of_decide_eq_false h1
  have h5 : v.type = 5 := (t5 hv).2 rfl
  cases g
  · exact absurd ⟨h5, by simp only; omega, fun h => by cases h⟩ nok
  conv => whnf
  cases h2 : decide (tf < te)
  · exact absurd ⟨h5, by simp only; omega, fun _ => by have := of_decide_eq_false h2; simp only; omega⟩ nok
  conv => whnf
  exact end_of [] (by rfl) (by rfl) (by rfl) (by exact ⟨rfl, rfl⟩)

set_option maxRecDepth 100000 in
theorem c_New (T : TT) (v : Val) (n : Nat) (hn : T.e = n) (gok : nwOK T v) : SpecD S 7 [T.agg, .agg (encVal v)] [] (.tup [.ptr 0 0, .int .i64 0]) [tab (.own .value 1 0 n .whole) T, .row .value (List.replicate n v)] := by
  obtain ⟨ta, tb, tc, td, te, tf, g⟩ := T
  obtain ⟨k1, k2, k3⟩ := gok
  simp only at hn k2 k3
  subst hn
  refine specE ok sh7 rfl ?_
  conv => whnf
  refine call_of [] (c_isRef v) (by rfl) (by rfl) ?_
  conv => whnf
  rw [show (v.type == 5) = true by rw [k1]; rfl]
  conv => whnf
  rw [show decide ((65536 : Int) < n) = false from decide_eq_false (by omega)]
  conv => whnf
  cases g
  · conv => whnf
    refine call_of [3] (c_add_nil n v ⟨ta, tb, tc, td, n, tf, false⟩ (by omega)) (by rfl) (by rfl) ?_
    conv => whnf
    exact end_of [3, 4] (by rfl) (by rfl) (by rfl) (by exact ⟨rfl, rfl⟩)
  · have := k3 rfl
    conv => whnf
    rw [show decide (tf < (n : Int)) = false from decide_eq_false (by omega)]
    conv => whnf
    refine call_of [3] (c_add_nil n v ⟨ta, tb, tc, td, n, tf, true⟩ (by omega)) (by rfl) (by rfl) ?_
    conv => whnf
    exact end_of [3, 4] (by rfl) (by rfl) (by rfl) (by exact ⟨rfl, rfl⟩)

set_option maxRecDepth 100000 in
theorem c_rNew_no (T : TT) (v : Val) (nok : ¬ nwOK T v) : SpecD S 30 [T.agg, .agg (encVal v)] [] (.tup [.nilp, .int .i64 1]) [] := by
  obtain ⟨ta, tb, tc, td, te, tf, g⟩ := T
  refine specE ok sh30 rfl ?_
  conv => whnf
  cases hv : v.type == 5
  · simp only [bne, hv]
    conv => whnf
    exact end_of [] (by rfl) (by rfl) (by rfl) (by exact ⟨rfl, rfl⟩)
  simp only [bne, hv]
  conv => whnf
  cases h1 : decide ((65536 : Int) < te)
  rotate_left
  · conv => whnf
    exact end_of [] (by rfl) (by rfl) (by rfl) (by exact ⟨rfl, rfl⟩)
  conv => whnf
  have h1' := of_decide_eq_false h1
  have h5 : v.type = 5 := (t5 hv).2 rfl
  cases g
  · exact absurd ⟨h5, by simp only; omega, fun h => by cases h⟩ nok
  conv => whnf
  cases h2 : decide (tf < te)
  · exact absurd ⟨h5, by simp only; omega, fun _ => by have := of_decide_eq_false h2; simp only; omega⟩ nok
  conv => whnf
  exact end_of [] (by rfl) (by rfl) (by rfl) (by exact ⟨rfl, rfl⟩)

def nwV (j : Int) : List V := [.ptr 0 0, .ptr 1 0, .ptr 2 0, .int .u64 j]
def nwH (T : TT) (v : Val) (j : Nat) (l : List Val) : Heap KT ElT := [.cells (encVal v), .cells [.bool T.d, .int .u64 T.e, .int .u64 T.f, .bool T.g], rtab (.own .value 3 0 j .whole) T, .row .value l]

set_option maxRecDepth 100000 in
theorem c_rNewLoop (T : TT) (v : Val) (n : Nat) (hn : T.e = n) (gok : nwOK T v) : SpecD S 30 [T.agg, .agg (encVal v)] [] (.tup [.ptr 0 0, .int .i64 0]) [rtab (.own .value 1 0 n .whole) T, .row .value (List.replicate n v)] := by
  obtain ⟨ta, tb, tc, td, te, tf, g⟩ := T
  obtain ⟨k1, k2, k3⟩ := gok
  simp only at hn k2 k3
  subst hn
  refine specE ok sh30 rfl ?_
  conv => whnf
  rw [show (v.type != 5) = false by rw [k1]; rfl]
  conv => whnf
  rw [show decide ((65536 : Int) < n) = false from decide_eq_false (by omega)]
  conv => whnf
  cases g
  · conv => whnf
    refine loop_of [.cell 3 7 .value] [1, 2, 3, 4] (fun vs H => ∃ j : Nat, j ≤ n ∧ vs = nwV j ∧ H = nwH ⟨ta, tb, tc, td, n, tf, false⟩ v j (List.replicate j v))
      (fun vs _ => match vs with | [_, _, _, .int _ j] => n - j.toNat | _ => 0) (by rfl) (by rfl) (by rfl) (by rfl) ⟨0, Nat.zero_le _, rfl, rfl⟩ ?_
    rintro vs H1 ⟨j, hj, rfl, rfl⟩
    conv => whnf
    cases hd : decide ((j : Int) < n)
    · conv => whnf
      have := of_decide_eq_false hd
      obtain rfl : j = n := by omega
      exact end_of [2, 3] (by rfl) (by rfl) (by rfl) (by exact ⟨rfl, rfl⟩)
    · conv => whnf
      refine And.intro (by repeat first | exact trivial | refine And.intro (by first | rfl | exact trivial) ?_) ?_
      conv => whnf
      refine ⟨rfl, by simp, ?_⟩
      conv => whnf
      refine ⟨rfl, by simp, ⟨by unfold maxLen; simp; omega, by simp [S]; omega⟩, rfl, ?_⟩
      conv => whnf
      refine And.intro (by repeat first | exact trivial | refine And.intro (by first | rfl | exact trivial) ?_) ?_
      conv => whnf
      have := of_decide_eq_true hd
      have hw : IntKind.u64.wrap ((j : Int) + 1) = ((j + 1 : Nat) : Int) := wrap_u64 (by omega) (by omega)
      have hx : (List.replicate j v).take j ++ [v] = List.replicate (j + 1) v := by simp [List.replicate_succ']
      refine ⟨[0, 1, 2, 5], [], relo_of [0, 1, 2, 5] (by rfl) (by rfl), ?_⟩
      refine ⟨⟨j + 1, by omega, congrArg nwV hw, congrArg (nwH ⟨ta, tb, tc, td, n, tf, false⟩ v (j + 1)) hx⟩, ?_⟩
      show n - (IntKind.u64.wrap ((j : Int) + 1)).toNat < n - (j : Int).toNat
      rw [hw]; omega
  · have := k3 rfl
    conv => whnf
    rw [show decide (tf < (n : Int)) = false from decide_eq_false (by omega)]
    conv => whnf
    refine loop_of [.cell 3 7 .value] [1, 2, 3, 4] (fun vs H => ∃ j : Nat, j ≤ n ∧ vs = nwV j ∧ H = nwH ⟨ta, tb, tc, td, n, tf, true⟩ v j (List.replicate j v))
      (fun vs _ => match vs with | [_, _, _, .int _ j] => n - j.toNat | _ => 0) (by rfl) (by rfl) (by rfl) (by rfl) ⟨0, Nat.zero_le _, rfl, rfl⟩ ?_
    rintro vs H1 ⟨j, hj, rfl, rfl⟩
    conv => whnf
    cases hd : decide ((j : Int) < n)
    · conv => whnf
      have := of_decide_eq_false hd
      obtain rfl : j = n := by omega
      exact end_of [2, 3] (by rfl) (by rfl) (by rfl) (by exact ⟨rfl, rfl⟩)
    · conv => whnf
      refine And.intro (by repeat first | exact trivial | refine And.intro (by first | rfl | exact trivial) ?_) ?_
      conv => whnf
      refine ⟨rfl, by simp, ?_⟩
      conv => whnf
      refine ⟨rfl, by simp, ⟨by unfold maxLen; simp; omega, by simp [S]; omega⟩, rfl, ?_⟩
      conv => whnf
      refine And.intro (by repeat first | exact trivial | refine And.intro (by first | rfl | exact trivial) ?_) ?_
      conv => whnf
      have := of_decide_eq_true hd
      have hw : IntKind.u64.wrap ((j : Int) + 1) = ((j + 1 : Nat) : Int) := wrap_u64 (by omega) (by omega)
      have hx : (List.replicate j v).take j ++ [v] = List.replicate (j + 1) v := by simp [List.replicate_succ']
      refine ⟨[0, 1, 2, 5], [], relo_of [0, 1, 2, 5] (by rfl) (by rfl), ?_⟩
      refine ⟨⟨j + 1, by omega, congrArg nwV hw, congrArg (nwH ⟨ta, tb, tc, td, n, tf, true⟩ v (j + 1)) hx⟩, ?_⟩
      show n - (IntKind.u64.wrap ((j : Int) + 1)).toNat < n - (j : Int).toNat
      rw [hw]; omega

/-! ### References -/
theorem refsOf_all {l : List Val} (h : allT l = true) : (refsOf l).length = l.length := by
  have : l.filter (fun v => v.type == 5) = l := List.filter_eq_self.2 fun v hv => by simpa using List.all_eq_true.1 h v hv
  rw [refsOf, this, List.length_map]

set_option maxRecDepth 100000 in
theorem c_tSet (L : List Val) (T : TT) (r : List Ref) (hl : L.length ≤ 1048576) (hr : (refsOf L).length = r.length) : SpecD S 37 [.ptr 0 0, .imm .ref r] (tH L T) (.int .i64 0) (tH (layR L r) T) := by
  have h := c_lay L r hl hr
  refine specE ok sh37 rfl ?_
  conv => whnf
  refine call_of [0, 1] (c_none L.length T L) (by rfl) (by rfl) ?_
  conv => whnf
  refine call_of [1] (h) (by rfl) (by rfl) ?_
  conv => whnf
  refine end_of [0, 1] (by rfl) (by rfl) (by rfl) ⟨rfl, ?_⟩
  unfold tH
  rw [layR_len]
  rfl

set_option maxRecDepth 100000 in
theorem c_tSet0 (L : List Val) (T : TT) (r : List Ref) (hl : L.length ≤ 1048576) (hr : (refsOf L).length ≠ r.length) : SpecD S 37 [.ptr 0 0, .imm .ref r] (tH L T) (.int .i64 1) (tH L T) := by
  have h := c_lay0 L r hl hr
  refine specE ok sh37 rfl ?_
  conv => whnf
  refine call_of [0, 1] (c_none L.length T L) (by rfl) (by rfl) ?_
  conv => whnf
  refine call_of [1] (h) (by rfl) (by rfl) ?_
  conv => whnf
  exact end_of [0, 1] (by rfl) (by rfl) (by rfl) (by exact ⟨rfl, rfl⟩)

theorem c_tSetE (E : List Ref) (L : List Val) (T : TT) (r : List Ref) (e : E = r) (hl : L.length ≤ 1048576) (hr : (refsOf L).length = r.length) : SpecD S 37 [.ptr 0 0, .imm .ref E] (tH L T) (.int .i64 0) (tH (layR L r) T) := by subst e; exact c_tSet L T E hl hr
theorem c_tSet0E (E : List Ref) (L : List Val) (T : TT) (r : List Ref) (e : E = r) (hl : L.length ≤ 1048576) (hr : (refsOf L).length ≠ r.length) : SpecD S 37 [.ptr 0 0, .imm .ref E] (tH L T) (.int .i64 1) (tH L T) := by subst e; exact c_tSet0 L T E hl hr

/-- As many references as asked, as a rule. -/
def laidL (n : Nat) : List Ref → List Ref
  | [] => []
  | x :: r => (x :: r) ++ List.replicate (n - (r.length + 1)) x

theorem laidL_len (n : Nat) (r : List Ref) : (laidL n r).length ≤ max n r.length := by
  cases r with
  | nil => simp [laidL]
  | cons x r => simp [laidL]; omega

def ldV (n : Nat) (r : List Ref) (m : Nat) : List V := [.int .i64 n, .imm .ref r, .own .ref 0 0 m .whole]

set_option maxRecDepth 100000 in
theorem c_laid (n : Nat) (r : List Ref) (hn : n ≤ 1048576) (hr : r.length ≤ 1048576) : SpecD S 69 [.int .i64 n, .imm .ref r] [] (.own .ref 0 0 (laidL n r).length .whole) [.row .ref (laidL n r)] := by
  refine specE ok sh69 rfl ?_
  conv => whnf
  refine ⟨rfl, by simp, ⟨by unfold maxLen; simp; omega, by simp [S]; omega⟩, rfl, ?_⟩
  conv => whnf
  cases r with
  | nil =>
    refine loop_of [] [1] (fun vs H => vs = ldV n [] 0 ∧ H = [.row .ref []])
      (fun vs _ => 0) (by rfl) (by rfl) (by rfl) (by rfl) ⟨rfl, rfl⟩ ?_
    rintro vs H1 ⟨rfl, rfl⟩
    conv => whnf
    cases hd : decide (((0 : Nat) : Int) < n)
    · conv => whnf
      exact end_of [0] (by rfl) (by rfl) (by rfl) (by exact ⟨rfl, rfl⟩)
    · conv => whnf
      exact end_of [0] (by rfl) (by rfl) (by rfl) (by exact ⟨rfl, rfl⟩)
  | cons x r =>
    refine loop_of [] [1] (fun vs H => ∃ j m : Nat, j ≤ n - (r.length + 1) ∧ m = r.length + 1 + j ∧ vs = ldV n (x :: r) m ∧ H = [.row .ref ((x :: r) ++ List.replicate j x)])
      (fun vs _ => match vs with | [_, _, .own _ _ _ m _] => n - m | _ => 0) (by rfl) (by rfl) (by rfl) (by rfl) ⟨0, _, Nat.zero_le _, ?_, rfl, ?_⟩ ?_
    · simp
    · show ([.row .ref (x :: r)] : Heap KT ElT) = [.row .ref ((x :: r) ++ List.replicate 0 x)]
      simp
    rintro vs H1 ⟨j, m, hj, rfl, rfl, rfl⟩
    conv => whnf
    cases hd : decide (((r.length + 1 + j : Nat) : Int) < n)
    · conv => whnf
      have := of_decide_eq_false hd
      have hjn : j = n - (r.length + 1) := by omega
      refine end_of [0] (by rfl) (by rfl) (by rfl) ⟨?_, ?_⟩
      · show (AV.own .ref 0 0 (r.length + 1 + j) .whole : V) = _
        rw [hjn]; simp [laidL]; omega
      · show ([.row .ref ((x :: r) ++ List.replicate j x)] : Heap KT ElT) = _
        rw [hjn]; rfl
    · conv => whnf
      have := of_decide_eq_true hd
      simp only [List.length_cons] at hr
      cases hq : decide ((0 : Int) < ((x :: r).length : Int))
      · have := of_decide_eq_false hq
        simp only [List.length_cons] at this
        omega
      conv => whnf
      refine ⟨rfl, by decide, by simp only [List.length_cons]; omega, ?_⟩
      conv => whnf
      refine ⟨by simp, by decide, ?_⟩
      conv => whnf
      refine ⟨rfl, by simp, ?_⟩
      conv => whnf
      refine ⟨rfl, by simp; omega, ⟨by unfold maxLen; simp; omega, by simp [S]; omega⟩, rfl, ?_⟩
      conv => whnf
      refine ⟨[2], [], relo_of [2] (by rfl) (by rfl), ?_⟩
      refine ⟨⟨j + 1, _, by omega, ?_, rfl, ?_⟩, ?_⟩
      · show r.length + 1 + j + 1 = _
        omega
      · show ([.row .ref (((x :: r) ++ List.replicate j x).take (r.length + 1 + j) ++ [x])] : Heap KT ElT) = _
        rw [List.take_of_length_le (by simp; omega), List.append_assoc, List.replicate_succ']
      · show n - (r.length + 1 + j + 1) < n - (r.length + 1 + j)
        omega

/-! ### What both tell of themselves -/
theorem c_sameEE (E F a : List Ref) (e : E = a) (f : F = a) (hl : a.length ≤ 1048576) : SpecD S 9 [.imm .ref E, .imm .ref F] [] (.bool true) [] := by subst e; subst f; exact c_same _ hl
theorem c_rRefsE (E a : List Val) (e : E = a) (hl : a.length ≤ 1048576) : SpecD S 26 [.imm .value E] [] (.own .ref 0 0 (refsOf a).length .whole) [.row .ref (refsOf a)] := by subst e; exact c_rRefs _ hl

def two (L : List Val) (T : TT) : Heap KT ElT := [tab (.own .value 1 0 L.length .whole) T, .row .value L, rtab (.own .value 3 0 L.length .whole) T, .row .value L]

theorem c_Refs' (L : List Val) (T : TT) (hl : L.length ≤ 1048576) : SpecD S 10 [.ptr 0 0] (tH L T) (.own .ref 2 0 (refsOf L).length .whole) [tab (.own .value 1 0 L.length .whole) T, .row .value L, .row .ref (refsOf L)] := c_Refs L.length T L hl rfl

set_option maxRecDepth 100000 in
theorem c_told (L : List Val) (T : TT) (hl : L.length ≤ 1048576) : SpecD S 31 [.ptr 0 0, .ptr 2 0] (two L T) (.bool true) (two L T) := by
  have hw : IntKind.u64.wrap (L.length : Int) = L.length := wrap_u64 (by omega) (by omega)
  have hrl : (refsOf L).length ≤ 1048576 := Nat.le_trans (refsOf_le L) hl
  refine specE ok sh31 rfl ?_
  conv => whnf
  refine call_of [2, 3] (c_rLimits L T hl) (by rfl) (by rfl) ?_
  conv => whnf
  rw [hw]
  refine call_of [0, 1] (c_Size L T hl) (by rfl) (by rfl) ?_
  conv => whnf
  refine And.intro (by repeat first | exact trivial | refine And.intro (by first | rfl | exact trivial) ?_) ?_
  conv => whnf
  cases h1 : ((L.length : Int) == L.length)
  · simp at h1
  conv => whnf
  refine call_of [0, 1] (c_Limits L T hl) (by rfl) (by rfl) ?_
  conv => whnf
  refine And.intro (by repeat first | exact trivial | refine And.intro (by first | rfl | exact trivial) ?_) ?_
  conv => whnf
  refine call_of [2, 3] (c_rLimits L T hl) (by rfl) (by rfl) ?_
  conv => whnf
  cases h2 : ((now T L.length).d == (now T L.length).d && ((now T L.length).e == (now T L.length).e && ((now T L.length).f == (now T L.length).f && ((now T L.length).g == (now T L.length).g && true))))
  · simp at h2
  conv => whnf
  refine call_of [0, 1] (c_Type L T hl) (by rfl) (by rfl) ?_
  conv => whnf
  refine And.intro (by repeat first | exact trivial | refine And.intro (by first | rfl | exact trivial) ?_) ?_
  conv => whnf
  cases h3 : ((now T L.length).a == T.a && ((now T L.length).b == T.b && ((now T L.length).c == T.c && ((now T L.length).d == (now T L.length).d && ((now T L.length).e == (now T L.length).e && ((now T L.length).f == (now T L.length).f && ((now T L.length).g == (now T L.length).g && true)))))))
  · simp [now] at h3
  conv => whnf
  refine call_of [0, 1] (c_Refs' L T hl) (by rfl) (by rfl) ?_
  conv => whnf
  refine And.intro (by repeat first | exact trivial | refine And.intro (by first | rfl | exact trivial) ?_) ?_
  conv => whnf
  refine callL_of [] [3] (c_rRefsE _ L (by simp) hl) (by rfl) (by rfl) ?_ ?_ (by exact ⟨rfl, rfl⟩) ?_
  · exact ⟨⟨rfl, by simp⟩, trivial⟩
  · trivial
  conv => whnf
  refine callL_of [] [5, 6] (c_sameEE _ _ (refsOf L) (by simp) (by simp) hrl) (by rfl) (by rfl) ?_ ?_ (by exact ⟨rfl, rfl⟩) ?_
  · exact ⟨⟨rfl, by simp⟩, ⟨rfl, by simp⟩, trivial⟩
  · trivial
  conv => whnf
  exact end_of [0, 1, 2, 3] (by rfl) (by rfl) (by rfl) (by exact ⟨rfl, rfl⟩)
end Sh
end Go.Proofs.Ytanonfilhgkkcaa
