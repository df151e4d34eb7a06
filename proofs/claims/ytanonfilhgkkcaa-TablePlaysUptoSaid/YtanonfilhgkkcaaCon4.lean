/- What the functions of tables compute, part 4: every call of a table, and of the reference's. -/
import Derived.Test.YtanonfilhgkkcaaSeg2
import Derived.Test.YtanonfilhgkkcaaShadeD
namespace Go.Proofs.Ytanonfilhgkkcaa
open Go
namespace Sh

def zv : Val := ⟨0, 0, ⟨0, 0, false⟩⟩
def tH (L : List Val) (T : TT) : Heap KT ElT := [tab (.own .value 1 0 L.length .whole) T, .row .value L]
/-- The reference's table. -/
def rtab (s : V) (t : TT) : AO KT ElT := .cells [.int .i64 t.a, .bool t.b, .int .i64 t.c, .bool t.d, .int .u64 t.e, .int .u64 t.f, .bool t.g, s]
def rH (L : List Val) (T : TT) : Heap KT ElT := [rtab (.own .value 1 0 L.length .whole) T, .row .value L]
/-- A table's type as it is now. -/
def now (T : TT) (n : Nat) : TT := ⟨T.a, T.b, T.c, T.d, n, T.f, T.g⟩
def lim (T : TT) : V := .agg [.bool T.d, .int .u64 T.e, .int .u64 T.f, .bool T.g]

set_option maxRecDepth 100000 in
theorem c_Size (L : List Val) (T : TT) (hl : L.length ≤ 1048576) : SpecD S 38 [.ptr 0 0] (tH L T) (.int .u64 L.length) (tH L T) := by
  refine specE ok sh38 rfl ?_
  conv => whnf
  refine call_of [0, 1] (c_none L.length T L) (by rfl) (by rfl) ?_
  conv => whnf
  refine call_of [0, 1] (c_size_t3 L.length T L hl) (by rfl) (by rfl) ?_
  conv => whnf
  exact end_of [0, 1] (by rfl) (by rfl) (by rfl) (by exact ⟨rfl, rfl⟩)

set_option maxRecDepth 100000 in
theorem c_Type (L : List Val) (T : TT) (hl : L.length ≤ 1048576) : SpecD S 39 [.ptr 0 0] (tH L T) (now T L.length).agg (tH L T) := by
  refine specE ok sh39 rfl ?_
  conv => whnf
  refine call_of [0, 1] (c_none L.length T L) (by rfl) (by rfl) ?_
  conv => whnf
  refine call_of [0, 1] (c_size_t3 L.length T L hl) (by rfl) (by rfl) ?_
  conv => whnf
  exact end_of [0, 1] (by rfl) (by rfl) (by rfl) (by exact ⟨rfl, rfl⟩)

set_option maxRecDepth 100000 in
theorem c_Limits (L : List Val) (T : TT) (hl : L.length ≤ 1048576) : SpecD S 40 [.ptr 0 0] (tH L T) (lim (now T L.length)) (tH L T) := by
  refine specE ok sh40 rfl ?_
  conv => whnf
  refine call_of [0, 1] (c_Type L T hl) (by rfl) (by rfl) ?_
  conv => whnf
  exact end_of [0, 1] (by rfl) (by rfl) (by rfl) (by exact ⟨rfl, rfl⟩)

set_option maxRecDepth 100000 in
theorem c_rLimits (L : List Val) (T : TT) (hl : L.length ≤ 1048576) : SpecD S 62 [.ptr 0 0] (rH L T) (lim (now T L.length)) (rH L T) := by
  refine specE ok sh62 rfl ?_
  conv => whnf
  rw [show IntKind.u64.wrap (L.length : Int) = L.length from wrap_u64 (by omega) (by omega)]
  exact end_of [0, 1] (by rfl) (by rfl) (by rfl) (by exact ⟨rfl, rfl⟩)

/-! ### Get -/
def getV (L : List Val) (i : Nat) : Val := if i < L.length then L.getD i zv else zv
def getE (L : List Val) (i : Nat) : Int := if i < L.length then 0 else 210

set_option maxRecDepth 100000 in
theorem c_Get (L : List Val) (T : TT) (i : Nat) (hl : L.length ≤ 1048576) : SpecD S 33 [.ptr 0 0, .int .u64 i] (tH L T) (.tup [.agg (encVal (getV L i)), .int .i64 (getE L i)]) (tH L T) := by
  refine specE ok sh33 rfl ?_
  conv => whnf
  refine call_of [0, 1] (c_none L.length T L) (by rfl) (by rfl) ?_
  conv => whnf
  refine call_of [0, 1] (c_size_t3 L.length T L hl) (by rfl) (by rfl) ?_
  conv => whnf
  cases h : decide ((L.length : Int) ≤ i)
  · conv => whnf
    have := of_decide_eq_false h
    refine ⟨rfl, by omega, by omega, ?_⟩
    conv => whnf
    refine ⟨rfl, by omega, (by decide : 0 + 5 ≤ 5), ?_⟩
    conv => whnf
    refine end_of [0, 1] (by rfl) (by rfl) (by rfl) ⟨?_, rfl⟩
    show (AV.tup [.agg (encVal (L.getD (0 + Int.toNat (i : Int)) zv)), .int .i64 0] : V) = _
    rw [getV, getE, if_pos (by omega), if_pos (by omega), Nat.zero_add, Int.toNat_natCast]
  · conv => whnf
    have := of_decide_eq_true h
    refine end_of [0, 1] (by rfl) (by rfl) (by rfl) ⟨?_, rfl⟩
    show (AV.tup [.agg (encVal zv), .int .i64 210] : V) = _
    rw [getV, getE, if_neg (by omega), if_neg (by omega)]

set_option maxRecDepth 100000 in
theorem c_rGet (L : List Val) (T : TT) (i : Nat) (hl : L.length ≤ 1048576) : SpecD S 63 [.ptr 0 0, .int .u64 i] (rH L T) (.tup [.agg (encVal (getV L i)), .int .i64 (getE L i)]) (rH L T) := by
  refine specE ok sh63 rfl ?_
  conv => whnf
  rw [show IntKind.u64.wrap (L.length : Int) = L.length from wrap_u64 (by omega) (by omega)]
  cases h : decide ((L.length : Int) ≤ i)
  · conv => whnf
    have := of_decide_eq_false h
    refine ⟨rfl, by omega, by omega, ?_⟩
    conv => whnf
    refine ⟨rfl, by omega, (by decide : 0 + 5 ≤ 5), ?_⟩
    conv => whnf
    refine end_of [0, 1] (by rfl) (by rfl) (by rfl) ⟨?_, rfl⟩
    show (AV.tup [.agg (encVal (L.getD (0 + Int.toNat (i : Int)) zv)), .int .i64 0] : V) = _
    rw [getV, getE, if_pos (by omega), if_pos (by omega), Nat.zero_add, Int.toNat_natCast]
  · conv => whnf
    have := of_decide_eq_true h
    refine end_of [0, 1] (by rfl) (by rfl) (by rfl) ⟨?_, rfl⟩
    show (AV.tup [.agg (encVal zv), .int .i64 210] : V) = _
    rw [getV, getE, if_neg (by omega), if_neg (by omega)]

/-! ### Set -/
def setE (L : List Val) (i : Nat) (v : Val) : Int := if v.type = 5 then (if i < L.length then 0 else 210) else 1
def setL (L : List Val) (i : Nat) (v : Val) : List Val := if v.type = 5 ∧ i < L.length then L.set i v else L
theorem setL_len (L : List Val) (i : Nat) (v : Val) : (setL L i v).length = L.length := by unfold setL; split <;> simp

theorem t5 {v : Val} {b : Bool} (h : (v.type == 5) = b) : v.type = 5 ↔ b = true := by subst h; simp

set_option maxRecDepth 100000 in
theorem c_Set (L : List Val) (T : TT) (i : Nat) (v : Val) (hl : L.length ≤ 1048576) : SpecD S 35 [.ptr 0 0, .int .u64 i, .agg (encVal v)] (tH L T) (.int .i64 (setE L i v)) (tH (setL L i v) T) := by
  refine specE ok sh35 rfl ?_
  conv => whnf
  refine call_of [0, 1] (c_none L.length T L) (by rfl) (by rfl) ?_
  conv => whnf
  refine call_of [] (c_isRef v) (by rfl) (by rfl) ?_
  conv => whnf
  cases hv : v.type == 5
  · conv => whnf
    have h5 := t5 hv
    refine end_of [0, 1] (by rfl) (by rfl) (by rfl) ⟨?_, ?_⟩
    · show (AV.int .i64 1 : V) = _
      rw [setE, if_neg (by simp [h5])]
    · rw [setL, if_neg (by simp [h5])]; rfl
  · conv => whnf
    have h5 : v.type = 5 := (t5 hv).2 rfl
    refine call_of [0, 1] (c_size_t3 L.length T L hl) (by rfl) (by rfl) ?_
    conv => whnf
    cases h : decide ((L.length : Int) ≤ i)
    · conv => whnf
      have := of_decide_eq_false h
      refine ⟨rfl, by omega, by omega, ?_⟩
      conv => whnf
      refine ⟨rfl, by omega, (by decide : 0 + 5 ≤ 5), ?_⟩
      conv => whnf
      refine end_of [0, 1] (by rfl) (by rfl) (by rfl) ⟨?_, ?_⟩
      · show (AV.int .i64 0 : V) = _
        rw [setE, if_pos h5, if_pos (by omega)]
      · show ([tab (.own .value 1 0 L.length .whole) T, .row .value (L.set (0 + Int.toNat (i : Int)) v)] : Heap KT ElT) = _
        rw [tH, setL_len, setL, if_pos ⟨h5, by omega⟩, Nat.zero_add, Int.toNat_natCast]
    · conv => whnf
      have := of_decide_eq_true h
      refine end_of [0, 1] (by rfl) (by rfl) (by rfl) ⟨?_, ?_⟩
      · show (AV.int .i64 210 : V) = _
        rw [setE, if_pos h5, if_neg (by omega)]
      · rw [setL, if_neg (by omega)]; rfl

set_option maxRecDepth 100000 in
theorem c_rSet1 (L : List Val) (T : TT) (i : Nat) (v : Val) (hl : L.length ≤ 1048576) : SpecD S 64 [.ptr 0 0, .int .u64 i, .agg (encVal v)] (rH L T) (.int .i64 (setE L i v)) (rH (setL L i v) T) := by
  refine specE ok sh64 rfl ?_
  conv => whnf
  cases hv : v.type == 5
  · simp only [bne, hv]
    conv => whnf
    have h5 := t5 hv
    refine end_of [0, 1] (by rfl) (by rfl) (by rfl) ⟨?_, ?_⟩
    · show (AV.int .i64 1 : V) = _
      rw [setE, if_neg (by simp [h5])]
    · rw [setL, if_neg (by simp [h5])]; rfl
  · simp only [bne, hv]
    conv => whnf
    have h5 : v.type = 5 := (t5 hv).2 rfl
    rw [show IntKind.u64.wrap (L.length : Int) = L.length from wrap_u64 (by omega) (by omega)]
    cases h : decide ((L.length : Int) ≤ i)
    · conv => whnf
      have := of_decide_eq_false h
      refine ⟨rfl, by omega, by omega, ?_⟩
      conv => whnf
      refine ⟨rfl, by omega, (by decide : 0 + 5 ≤ 5), ?_⟩
      conv => whnf
      refine end_of [0, 1] (by rfl) (by rfl) (by rfl) ⟨?_, ?_⟩
      · show (AV.int .i64 0 : V) = _
        rw [setE, if_pos h5, if_pos (by omega)]
      · show ([rtab (.own .value 1 0 L.length .whole) T, .row .value (L.set (0 + Int.toNat (i : Int)) v)] : Heap KT ElT) = _
        rw [rH, setL_len, setL, if_pos ⟨h5, by omega⟩, Nat.zero_add, Int.toNat_natCast]
    · conv => whnf
      have := of_decide_eq_true h
      refine end_of [0, 1] (by rfl) (by rfl) (by rfl) ⟨?_, ?_⟩
      · show (AV.int .i64 210 : V) = _
        rw [setE, if_pos h5, if_neg (by omega)]
      · rw [setL, if_neg (by omega)]; rfl

/-! ### Fill -/
set_option maxRecDepth 100000 in
theorem c_fits (a n m : Nat) (hm : m ≤ 1048576) : SpecD S 72 [.int .u64 a, .int .u64 n, .int .u64 m] [] (.bool (decide (a + n ≤ m))) [] := by
  refine specE ok sh72 rfl ?_
  conv => whnf
  cases h : decide ((n : Int) ≤ m)
  · conv => whnf
    have := of_decide_eq_false h
    rw [show decide (a + n ≤ m) = false from decide_eq_false (by omega)]
    exact end_of [] (by rfl) (by rfl) (by rfl) (by exact ⟨rfl, rfl⟩)
  · conv => whnf
    have := of_decide_eq_true h
    rw [show IntKind.u64.wrap ((m : Int) - n) = ((m - n : Nat) : Int) from (wrap_u64 (by omega) (by omega)).trans (by omega), show decide ((a : Int) ≤ ((m - n : Nat) : Int)) = decide (a + n ≤ m) from decide_eq_decide.2 (by omega)]
    exact end_of [] (by rfl) (by rfl) (by rfl) (by exact ⟨rfl, rfl⟩)

def filE (L : List Val) (a n : Nat) (v : Val) : Int := if v.type = 5 then (if a + n ≤ L.length then 0 else 210) else 1
def filL (L : List Val) (a n : Nat) (v : Val) : List Val := if v.type = 5 ∧ a + n ≤ L.length then fillL L a n v else L
theorem filL_len (L : List Val) (a n : Nat) (v : Val) : (filL L a n v).length = L.length := by
  unfold filL; split
  · rename_i h; exact fillL_len h.2
  · rfl

theorem tH_fil {L : List Val} {T : TT} {a n : Nat} {v : Val} (h5 : v.type = 5) (h : a + n ≤ L.length) : tH (filL L a n v) T = [tab (.own .value 1 0 L.length .whole) T, .row .value (fillL L a n v)] := by
  rw [tH, filL_len, filL, if_pos ⟨h5, h⟩]
theorem rH_fil {L : List Val} {T : TT} {a n : Nat} {v : Val} (h5 : v.type = 5) (h : a + n ≤ L.length) : rH (filL L a n v) T = [rtab (.own .value 1 0 L.length .whole) T, .row .value (fillL L a n v)] := by
  rw [rH, filL_len, filL, if_pos ⟨h5, h⟩]

set_option maxRecDepth 100000 in
theorem c_Fill (L : List Val) (T : TT) (a n : Nat) (v : Val) (hl : L.length ≤ 1048576) : SpecD S 8 [.ptr 0 0, .int .u64 a, .agg (encVal v), .int .u64 n] (tH L T) (.int .i64 (filE L a n v)) (tH (filL L a n v) T) := by
  by_cases h5 : v.type = 5
  · rcases Nat.lt_or_ge L.length (a + n) with h | h
    · have := c_fill_no L.length T L a n v h5 hl h
      rw [filE, if_pos h5, if_neg (by omega), filL, if_neg (by omega)]
      exact this
    · have := c_fill L.length T L a n v h5 hl rfl h
      rw [filE, if_pos h5, if_pos (by omega), tH_fil h5 h]
      exact this
  · rw [filE, if_neg h5, filL, if_neg (by simp [h5])]
    refine specE ok sh8 rfl ?_
    conv => whnf
    refine call_of [0, 1] (c_none L.length T L) (by rfl) (by rfl) ?_
    conv => whnf
    refine call_of [] (c_isRef v) (by rfl) (by rfl) ?_
    conv => whnf
    rw [show (v.type == 5) = false by simpa using h5]
    conv => whnf
    exact end_of [0, 1] (by rfl) (by rfl) (by rfl) (by exact ⟨rfl, rfl⟩)

def rfV (a n j : Int) : List V := [.ptr 0 0, .int .u64 a, .int .u64 n, .ptr 2 0, .int .u64 j]
def rfH (m : Nat) (t : TT) (v : Val) (l : List Val) : Heap KT ElT := [rtab (.own .value 1 0 m .whole) t, .row .value l, .cells (encVal v)]

set_option maxRecDepth 100000 in
theorem c_rFill (L : List Val) (T : TT) (a n : Nat) (v : Val) (hl : L.length ≤ 1048576) (hn : n ≤ 18446744073709551615) : SpecD S 66 [.ptr 0 0, .int .u64 a, .agg (encVal v), .int .u64 n] (rH L T) (.int .i64 (filE L a n v)) (rH (filL L a n v) T) := by
  refine specE ok sh66 rfl ?_
  conv => whnf
  cases hv : v.type == 5
  · simp only [bne, hv]
    conv => whnf
    have h5 := t5 hv
    refine end_of [0, 1] (by rfl) (by rfl) (by rfl) ⟨?_, ?_⟩
    · show (AV.int .i64 1 : V) = _
      rw [filE, if_neg (by simp [h5])]
    · rw [filL, if_neg (by simp [h5])]; rfl
  · simp only [bne, hv]
    conv => whnf
    have h5 : v.type = 5 := (t5 hv).2 rfl
    rw [show IntKind.u64.wrap (L.length : Int) = L.length from wrap_u64 (by omega) (by omega)]
    refine call_of [] (c_fits a n L.length hl) (by rfl) (by rfl) ?_
    conv => whnf
    rcases Nat.lt_or_ge L.length (a + n) with h | h
    · rw [show decide (a + n ≤ L.length) = false from decide_eq_false (by omega)]
      conv => whnf
      rw [filE, if_pos h5, if_neg (by omega), filL, if_neg (by omega)]
      exact end_of [0, 1] (by rfl) (by rfl) (by rfl) (by exact ⟨rfl, rfl⟩)
    · rw [show decide (a + n ≤ L.length) = true from decide_eq_true (by omega)]
      conv => whnf
      rw [filE, if_pos h5, if_pos h, rH_fil h5 h]
      refine loop_of [] [0, 1, 2] (fun vs H => ∃ j : Nat, j ≤ n ∧ vs = rfV a n j ∧ H = rfH L.length T v (fillL L a j v))
        (fun vs _ => match vs with | [_, _, _, _, .int _ j] => n - j.toNat | _ => 0) (by rfl) (by rfl) (by rfl) (by rfl) ⟨0, Nat.zero_le _, rfl, by rw [fillL_zero]; rfl⟩ ?_
      rintro vs H1 ⟨j, hj, rfl, rfl⟩
      conv => whnf
      cases hd : decide ((j : Int) < n)
      · conv => whnf
        have := of_decide_eq_false hd
        obtain rfl : j = n := by omega
        exact end_of [0, 1] (by rfl) (by rfl) (by rfl) (by exact ⟨rfl, rfl⟩)
      · conv => whnf
        have hlt := of_decide_eq_true hd
        have hw : IntKind.u64.wrap ((j : Int) + 1) = ((j + 1 : Nat) : Int) := wrap_u64 (by omega) (by omega)
        have hw2 : IntKind.u64.wrap ((a : Int) + j) = ((a + j : Nat) : Int) := wrap_u64 (by omega) (by omega)
        have hfl := fillL_len (l := L) (at_ := a) (k := j) (v := v) (by omega)
        rw [hw2]
        refine ⟨rfl, by omega, by omega, ?_⟩
        rw [Nat.zero_add, Int.toNat_natCast]
        conv => whnf
        refine ⟨rfl, by omega, (by decide : 0 + 5 ≤ 5), ?_⟩
        conv => whnf
        have hx : rfH L.length T v ((fillL L a j v).set (a + j) v) = rfH L.length T v (fillL L a (j + 1) v) := by rw [fillL_succ (by omega)]
        refine ⟨[0, 1, 2], [], relo_of [0, 1, 2] (by rfl) (by rfl), ?_⟩
        refine ⟨⟨j + 1, by omega, congrArg (rfV a n) hw, hx⟩, ?_⟩
        show n - (IntKind.u64.wrap ((j : Int) + 1)).toNat < n - (j : Int).toNat
        rw [hw]; omega
end Sh
end Go.Proofs.Ytanonfilhgkkcaa
