/- What is set is told; copied away and back it is as it was. -/
import Derived.Test.YtanonfilhgkkcaaCon3
namespace Go.Proofs.Ytanonfilhgkkcaa
open Go
namespace Sh

/-! ### Lists -/
theorem fillL_get {l : List Val} {at_ k : Nat} {v : Val} (h : at_ + k ≤ l.length) (i : Nat) : (fillL l at_ k v)[i]? = if at_ ≤ i ∧ i < at_ + k then some v else l[i]? := by
  have hl : (l.take at_ ++ List.replicate k v).length = at_ + k := by simp; omega
  unfold fillL
  rcases Nat.lt_or_ge i (at_ + k) with h1 | h1
  · rw [List.getElem?_append_left (by omega)]
    rcases Nat.lt_or_ge i at_ with h2 | h2
    · rw [List.getElem?_append_left (by simp; omega), List.getElem?_take_of_lt h2, if_neg (by omega)]
    · have ht : (l.take at_).length = at_ := by simp; omega
      rw [List.getElem?_append_right (by omega), if_pos ⟨h2, h1⟩, List.getElem?_replicate, if_pos (by omega)]
  · rw [List.getElem?_append_right (by omega), if_neg (by omega), List.getElem?_drop]
    congr 1; omega

theorem copyL_get {l f : List Val} {to at_ k : Nat} (h : to + k ≤ l.length) (h2 : at_ + k ≤ f.length) (i : Nat) : (copyL l to at_ k f)[i]? = if to ≤ i ∧ i < to + k then f[at_ + (i - to)]? else l[i]? := by
  have hl : (l.take to ++ (f.drop at_).take k).length = to + k := by simp; omega
  unfold copyL
  rcases Nat.lt_or_ge i (to + k) with h1 | h1
  · rw [List.getElem?_append_left (by omega)]
    rcases Nat.lt_or_ge i to with h3 | h3
    · rw [List.getElem?_append_left (by simp; omega), List.getElem?_take_of_lt h3, if_neg (by omega)]
    · have ht : (l.take to).length = to := by simp; omega
      rw [List.getElem?_append_right (by omega), if_pos ⟨h3, h1⟩, List.getElem?_take_of_lt (by omega), List.getElem?_drop, ht]
  · rw [List.getElem?_append_right (by omega), if_neg (by omega), List.getElem?_drop]
    congr 1; omega

theorem copyL_len {l f : List Val} {to at_ k : Nat} (h : to + k ≤ l.length) (h2 : at_ + k ≤ f.length) : (copyL l to at_ k f).length = l.length := by
  simp [copyL]; omega

def mk5 (n fr k : Nat) (v u : Val) : List Val := (List.range n).map fun i => if fr ≤ i ∧ i < fr + k then v else u

theorem mk5_len (n fr k : Nat) (v u : Val) : (mk5 n fr k v u).length = n := by simp [mk5]

theorem mk5_get {n fr k : Nat} {v u : Val} {i : Nat} (h : i < n) : (mk5 n fr k v u)[i]? = some (if fr ≤ i ∧ i < fr + k then v else u) := by simp [mk5, h]

theorem mk5_type {n fr k : Nat} {v u : Val} (hv : v.type = 5) (hu : u.type = 5) : ∀ x ∈ mk5 n fr k v u, x.type = 5 := by
  intro x hx
  obtain ⟨i, _, rfl⟩ := List.mem_map.1 hx
  split <;> assumption

theorem refsOf_all {l : List Val} (h : ∀ x ∈ l, x.type = 5) : refsOf l = l.map (·.ref) := by
  unfold refsOf
  rw [List.filter_eq_self.2 fun x hx => by rw [h x hx]; rfl]

theorem mk5_refs {n fr k : Nat} {v u : Val} (hv : v.type = 5) (hu : u.type = 5) : refsOf (mk5 n fr k v u) = sameL n fr k v u := by
  rw [refsOf_all (mk5_type hv hu), mk5, sameL, List.map_map]
  refine List.map_congr_left fun i _ => ?_
  simp only [Function.comp]
  split <;> rfl

theorem mk5_zero (n fr : Nat) (v u : Val) : List.replicate n u = mk5 n fr 0 v u := by
  refine List.ext_getElem? fun i => ?_
  rcases Nat.lt_or_ge i n with h | h
  · rw [mk5_get h, if_neg (by omega), List.getElem?_replicate, if_pos h]
  · rw [List.getElem?_eq_none (by simp; omega), List.getElem?_eq_none (by rw [mk5_len]; omega)]

theorem mk5_fill {n fr k : Nat} {v u : Val} (h : fr + k ≤ n) : fillL (List.replicate n u) fr k v = mk5 n fr k v u := by
  refine List.ext_getElem? fun i => ?_
  rw [fillL_get (by simpa using h)]
  rcases Nat.lt_or_ge i n with hi | hi
  · rw [mk5_get hi, List.getElem?_replicate, if_pos hi]; split <;> rfl
  · rw [if_neg (by omega), List.getElem?_eq_none (by simp; omega), List.getElem?_eq_none (by rw [mk5_len]; omega)]

theorem mk5_move {n fr k x : Nat} {v u : Val} (h : fr + k ≤ n) (hx : x + k ≤ n) (hd : ¬ (x < fr + k ∧ fr < x + k)) : fillL (copyL (mk5 n fr k v u) x fr k (mk5 n fr k v u)) fr k u = mk5 n x k v u := by
  have hl := mk5_len n fr k v u
  refine List.ext_getElem? fun i => ?_
  rw [fillL_get (by rw [copyL_len (by omega) (by omega)]; omega), copyL_get (by omega) (by omega)]
  rcases Nat.lt_or_ge i n with hi | hi
  · have hr : (mk5 n x k v u)[i]? = some (if x ≤ i ∧ i < x + k then v else u) := mk5_get hi
    rw [hr]
    by_cases h1 : fr ≤ i ∧ i < fr + k
    · rw [if_pos h1, if_neg (by omega)]
    · rw [if_neg h1]
      by_cases h2 : x ≤ i ∧ i < x + k
      · rw [if_pos h2, if_pos h2, mk5_get (by omega), if_pos (by omega)]
      · rw [if_neg h2, if_neg h2, mk5_get hi, if_neg h1]
  · rw [if_neg (by omega), if_neg (by omega), List.getElem?_eq_none (by omega), List.getElem?_eq_none (by rw [mk5_len]; omega)]

set_option maxRecDepth 100000 in
theorem c_RefsE (m : Nat) (t : TT) (l : List Val) (r : List Ref) (hm : m ≤ 1000000) (hl : l.length = m) (hr : refsOf l = r) (hn : r.length = m) :
    SpecD S 10 [.ptr 0 0] [tab (.own .value 1 0 m .whole) t, .row .value l] (.own .ref 2 0 m .whole) [tab (.own .value 1 0 m .whole) t, .row .value l, .row .ref r] := by
  have := c_Refs m t l hm hl
  rw [hr, hn] at this
  exact this

def v5 (v : Val) : Val := ⟨5, v.bits, v.ref⟩

theorem u8_mod (n m : Nat) (h : n ≤ 255) : IntKind.u64.wrap (Int.tmod (n : Int) m) = ((n % m : Nat) : Int) := by
  rw [show Int.tmod (n : Int) m = ((n % m : Nat) : Int) from rfl]
  have := Nat.mod_le n m
  exact wrap_u64 (by omega) (by omega)

def t0 (n : Nat) : TT := ⟨0, false, 0, false, n, 0, false⟩

set_option maxRecDepth 100000 in
set_option maxHeartbeats 4000000 in
theorem c_back (n a b c : Nat) (hn : n ≤ 255) (ha : a ≤ 255) (hb : b ≤ 255) (hc : c ≤ 255) (v u : Val) :
    SpecD S 3 [.int .u8 n, .int .u8 a, .int .u8 b, .int .u8 c, .agg (encVal v), .agg (encVal u)] [] (.bool true) [] := by
  have k1 : n % 32 < 32 := Nat.mod_lt _ (by omega)
  have k2 : a % 40 < 40 := Nat.mod_lt _ (by omega)
  have k3 : b % 12 < 12 := Nat.mod_lt _ (by omega)
  have k4 : c % 40 < 40 := Nat.mod_lt _ (by omega)
  have e1 := u8_mod n 32 hn
  have e2 := u8_mod a 40 ha
  have e3 := u8_mod b 12 hb
  have e4 := u8_mod c 40 hc
  generalize n % 32 = N at *
  generalize a % 40 = A at *
  generalize b % 12 = B at *
  generalize c % 40 = C at *
  refine specE ok sh3 rfl ?_
  conv => whnf
  refine ⟨by decide, ?_⟩
  conv => whnf
  rw [show IntKind.u64.wrap (Int.tmod (n : Int) 32) = N from e1]
  refine call_of [] (c_newTable N (t0 N) (v5 u) rfl (by omega) rfl rfl) (by rfl) (by rfl) ?_
  conv => whnf
  refine ⟨by decide, ?_⟩
  conv => whnf
  refine ⟨by decide, ?_⟩
  conv => whnf
  rw [show IntKind.u64.wrap (Int.tmod (a : Int) 40) = A from e2, show IntKind.u64.wrap (Int.tmod (b : Int) 12) = B from e3]
  have tv : (v5 v).type = 5 := rfl
  have tu : (v5 u).type = 5 := rfl
  have wAB : IntKind.u64.wrap ((A : Int) + B) = ((A + B : Nat) : Int) := wrap_u64 (by omega) (by omega)
  have wCB : IntKind.u64.wrap ((C : Int) + B) = ((C + B : Nat) : Int) := wrap_u64 (by omega) (by omega)
  have hr : ∀ x k, refsOf (mk5 N x k (v5 v) (v5 u)) = sameL N x k (v5 v) (v5 u) := fun x k => mk5_refs tv tu
  have hl : ∀ x k, (mk5 N x k (v5 v) (v5 u)).length = N := fun x k => mk5_len _ _ _ _ _
  have hs : ∀ x k, (sameL N x k (v5 v) (v5 u)).length = N := fun x k => sameL_len _ _ _ _ _
  have hty : ∀ x k, ∀ y ∈ mk5 N x k (v5 v) (v5 u), y.type = 5 := fun x k => mk5_type tv tu
  rw [show List.replicate N (v5 u) = mk5 N 0 0 (v5 v) (v5 u) from mk5_zero ..]
  rcases Nat.lt_or_ge N (A + B) with hlt | hge
  · refine call_of [2, 3] (c_fill_no N (t0 N) (mk5 N 0 0 (v5 v) (v5 u)) A B (v5 v) rfl (by omega) hlt) (by rfl) (by rfl) ?_
    conv => whnf
    rw [wAB]
    rw [show decide ((N : Int) < ((A + B : Nat) : Int)) = true from decide_eq_true (by omega)]
    conv => whnf
    refine call_of [2, 3] (c_RefsE N (t0 N) (mk5 N 0 0 (v5 v) (v5 u)) (sameL N 0 0 (v5 v) (v5 u)) (by omega) (hl _ _) (hr _ _) (hs _ _)) (by rfl) (by rfl) ?_
    conv => whnf
    try (refine And.intro (by repeat first | exact trivial | refine And.intro (by first | rfl | exact trivial) ?_) ?_; conv => whnf)
    refine call_of [] (c_mk N 0 0 (v5 v) (v5 u) (by omega) (by omega) (by omega)) (by rfl) (by rfl) ?_
    conv => whnf
    try (refine And.intro (by repeat first | exact trivial | refine And.intro (by first | rfl | exact trivial) ?_) ?_; conv => whnf)
    refine callL_of [] [4, 5] (c_same (((sameL N 0 0 (v5 v) (v5 u)).drop 0).take N) (by simp; omega)) (by rfl) (by rfl) ?_ ?_ (by exact ⟨rfl, rfl⟩) ?_
    · exact ⟨⟨rfl, by rw [sameL_len]; omega⟩, ⟨rfl, by rw [sameL_len]; omega⟩, trivial⟩
    · trivial
    conv => whnf
    refine call_of [] (c_awake) (by rfl) (by rfl) ?_
    conv => whnf
    exact end_of [] (by rfl) (by rfl) (by rfl) (by exact ⟨rfl, rfl⟩)
  · have hf : fillL (mk5 N 0 0 (v5 v) (v5 u)) A B (v5 v) = mk5 N A B (v5 v) (v5 u) := by rw [← mk5_zero N 0 (v5 v) (v5 u)]; exact mk5_fill hge
    have k5 := c_fill N (t0 N) (mk5 N 0 0 (v5 v) (v5 u)) A B (v5 v) rfl (by omega) (hl _ _) hge
    rw [hf] at k5
    refine call_of [2, 3] (k5) (by rfl) (by rfl) ?_
    conv => whnf
    rw [wAB]
    rw [show decide ((N : Int) < ((A + B : Nat) : Int)) = false from decide_eq_false (by omega)]
    conv => whnf
    refine call_of [2, 3] (c_RefsE N (t0 N) (mk5 N A B (v5 v) (v5 u)) (sameL N A B (v5 v) (v5 u)) (by omega) (hl _ _) (hr _ _) (hs _ _)) (by rfl) (by rfl) ?_
    conv => whnf
    try (refine And.intro (by repeat first | exact trivial | refine And.intro (by first | rfl | exact trivial) ?_) ?_; conv => whnf)
    refine call_of [] (c_mk N A B (v5 v) (v5 u) (by omega) (by omega) (by omega)) (by rfl) (by rfl) ?_
    conv => whnf
    try (refine And.intro (by repeat first | exact trivial | refine And.intro (by first | rfl | exact trivial) ?_) ?_; conv => whnf)
    refine callL_of [] [4, 5] (c_same (((sameL N A B (v5 v) (v5 u)).drop 0).take N) (by simp; omega)) (by rfl) (by rfl) ?_ ?_ (by exact ⟨rfl, rfl⟩) ?_
    · exact ⟨⟨rfl, by rw [sameL_len]; omega⟩, ⟨rfl, by rw [sameL_len]; omega⟩, trivial⟩
    · trivial
    conv => whnf
    refine ⟨by decide, ?_⟩
    conv => whnf
    rw [show IntKind.u64.wrap (Int.tmod (c : Int) 40) = C from e4]
    rw [wCB]
    cases h1 : decide ((N : Int) < ((C + B : Nat) : Int))
    · conv => whnf
      have h1' := of_decide_eq_false h1
      rw [wAB]
      cases h2 : decide ((C : Int) < ((A + B : Nat) : Int))
      · conv => whnf
        have h2' := of_decide_eq_false h2
        have k6 := c_copy_self N (t0 N) (mk5 N A B (v5 v) (v5 u)) C A B (by omega) (hl _ _) (hty _ _) hge (by omega)
        refine call_of [2, 3] (k6) (by rfl) (by rfl) ?_
        conv => whnf
        try (refine And.intro (by repeat first | exact trivial | refine And.intro (by first | rfl | exact trivial) ?_) ?_; conv => whnf)
        have k7 := c_fill N (t0 N) (copyL (mk5 N A B (v5 v) (v5 u)) C A B (mk5 N A B (v5 v) (v5 u))) A B (v5 u) rfl (by omega) (by rw [copyL_len (by rw [hl]; omega) (by rw [hl]; omega), hl]) hge
        rw [mk5_move hge (by omega) (by omega)] at k7
        refine call_of [2, 3] (k7) (by rfl) (by rfl) ?_
        conv => whnf
        try (refine And.intro (by repeat first | exact trivial | refine And.intro (by first | rfl | exact trivial) ?_) ?_; conv => whnf)
        refine call_of [2, 3] (c_RefsE N (t0 N) (mk5 N C B (v5 v) (v5 u)) (sameL N C B (v5 v) (v5 u)) (by omega) (hl _ _) (hr _ _) (hs _ _)) (by rfl) (by rfl) ?_
        conv => whnf
        try (refine And.intro (by repeat first | exact trivial | refine And.intro (by first | rfl | exact trivial) ?_) ?_; conv => whnf)
        refine call_of [] (c_mk N C B (v5 v) (v5 u) (by omega) (by omega) (by omega)) (by rfl) (by rfl) ?_
        conv => whnf
        try (refine And.intro (by repeat first | exact trivial | refine And.intro (by first | rfl | exact trivial) ?_) ?_; conv => whnf)
        refine callL_of [] [6, 7] (c_same (((sameL N C B (v5 v) (v5 u)).drop 0).take N) (by simp; omega)) (by rfl) (by rfl) ?_ ?_ (by exact ⟨rfl, rfl⟩) ?_
        · exact ⟨⟨rfl, by rw [sameL_len]; omega⟩, ⟨rfl, by rw [sameL_len]; omega⟩, trivial⟩
        · trivial
        conv => whnf
        have k8 := c_copy_self N (t0 N) (mk5 N C B (v5 v) (v5 u)) A C B (by omega) (hl _ _) (hty _ _) (by omega) hge
        refine call_of [2, 3] (k8) (by rfl) (by rfl) ?_
        conv => whnf
        try (refine And.intro (by repeat first | exact trivial | refine And.intro (by first | rfl | exact trivial) ?_) ?_; conv => whnf)
        have k9 := c_fill N (t0 N) (copyL (mk5 N C B (v5 v) (v5 u)) A C B (mk5 N C B (v5 v) (v5 u))) C B (v5 u) rfl (by omega) (by rw [copyL_len (by rw [hl]; omega) (by rw [hl]; omega), hl]) (by omega)
        rw [mk5_move (by omega) hge (by omega)] at k9
        refine call_of [2, 3] (k9) (by rfl) (by rfl) ?_
        conv => whnf
        try (refine And.intro (by repeat first | exact trivial | refine And.intro (by first | rfl | exact trivial) ?_) ?_; conv => whnf)
        refine call_of [2, 3] (c_RefsE N (t0 N) (mk5 N A B (v5 v) (v5 u)) (sameL N A B (v5 v) (v5 u)) (by omega) (hl _ _) (hr _ _) (hs _ _)) (by rfl) (by rfl) ?_
        conv => whnf
        try (refine And.intro (by repeat first | exact trivial | refine And.intro (by first | rfl | exact trivial) ?_) ?_; conv => whnf)
        refine call_of [] (c_mk N A B (v5 v) (v5 u) (by omega) (by omega) (by omega)) (by rfl) (by rfl) ?_
        conv => whnf
        try (refine And.intro (by repeat first | exact trivial | refine And.intro (by first | rfl | exact trivial) ?_) ?_; conv => whnf)
        refine callL_of [] [8, 9] (c_same (((sameL N A B (v5 v) (v5 u)).drop 0).take N) (by simp; omega)) (by rfl) (by rfl) ?_ ?_ (by exact ⟨rfl, rfl⟩) ?_
        · exact ⟨⟨rfl, by rw [sameL_len]; omega⟩, ⟨rfl, by rw [sameL_len]; omega⟩, trivial⟩
        · trivial
        conv => whnf
        try (refine And.intro (by repeat first | exact trivial | refine And.intro (by first | rfl | exact trivial) ?_) ?_; conv => whnf)
        refine call_of [] (c_awake) (by rfl) (by rfl) ?_
        conv => whnf
        exact end_of [] (by rfl) (by rfl) (by rfl) (by exact ⟨rfl, rfl⟩)
      · conv => whnf
        have h2' := of_decide_eq_true h2
        rw [wCB]
        cases h3 : decide ((A : Int) < ((C + B : Nat) : Int))
        · conv => whnf
          have h3' := of_decide_eq_false h3
          have k6 := c_copy_self N (t0 N) (mk5 N A B (v5 v) (v5 u)) C A B (by omega) (hl _ _) (hty _ _) hge (by omega)
          refine call_of [2, 3] (k6) (by rfl) (by rfl) ?_
          conv => whnf
          try (refine And.intro (by repeat first | exact trivial | refine And.intro (by first | rfl | exact trivial) ?_) ?_; conv => whnf)
          have k7 := c_fill N (t0 N) (copyL (mk5 N A B (v5 v) (v5 u)) C A B (mk5 N A B (v5 v) (v5 u))) A B (v5 u) rfl (by omega) (by rw [copyL_len (by rw [hl]; omega) (by rw [hl]; omega), hl]) hge
          rw [mk5_move hge (by omega) (by omega)] at k7
          refine call_of [2, 3] (k7) (by rfl) (by rfl) ?_
          conv => whnf
          try (refine And.intro (by repeat first | exact trivial | refine And.intro (by first | rfl | exact trivial) ?_) ?_; conv => whnf)
          refine call_of [2, 3] (c_RefsE N (t0 N) (mk5 N C B (v5 v) (v5 u)) (sameL N C B (v5 v) (v5 u)) (by omega) (hl _ _) (hr _ _) (hs _ _)) (by rfl) (by rfl) ?_
          conv => whnf
          try (refine And.intro (by repeat first | exact trivial | refine And.intro (by first | rfl | exact trivial) ?_) ?_; conv => whnf)
          refine call_of [] (c_mk N C B (v5 v) (v5 u) (by omega) (by omega) (by omega)) (by rfl) (by rfl) ?_
          conv => whnf
          try (refine And.intro (by repeat first | exact trivial | refine And.intro (by first | rfl | exact trivial) ?_) ?_; conv => whnf)
          refine callL_of [] [6, 7] (c_same (((sameL N C B (v5 v) (v5 u)).drop 0).take N) (by simp; omega)) (by rfl) (by rfl) ?_ ?_ (by exact ⟨rfl, rfl⟩) ?_
          · exact ⟨⟨rfl, by rw [sameL_len]; omega⟩, ⟨rfl, by rw [sameL_len]; omega⟩, trivial⟩
          · trivial
          conv => whnf
          have k8 := c_copy_self N (t0 N) (mk5 N C B (v5 v) (v5 u)) A C B (by omega) (hl _ _) (hty _ _) (by omega) hge
          refine call_of [2, 3] (k8) (by rfl) (by rfl) ?_
          conv => whnf
          try (refine And.intro (by repeat first | exact trivial | refine And.intro (by first | rfl | exact trivial) ?_) ?_; conv => whnf)
          have k9 := c_fill N (t0 N) (copyL (mk5 N C B (v5 v) (v5 u)) A C B (mk5 N C B (v5 v) (v5 u))) C B (v5 u) rfl (by omega) (by rw [copyL_len (by rw [hl]; omega) (by rw [hl]; omega), hl]) (by omega)
          rw [mk5_move (by omega) hge (by omega)] at k9
          refine call_of [2, 3] (k9) (by rfl) (by rfl) ?_
          conv => whnf
          try (refine And.intro (by repeat first | exact trivial | refine And.intro (by first | rfl | exact trivial) ?_) ?_; conv => whnf)
          refine call_of [2, 3] (c_RefsE N (t0 N) (mk5 N A B (v5 v) (v5 u)) (sameL N A B (v5 v) (v5 u)) (by omega) (hl _ _) (hr _ _) (hs _ _)) (by rfl) (by rfl) ?_
          conv => whnf
          try (refine And.intro (by repeat first | exact trivial | refine And.intro (by first | rfl | exact trivial) ?_) ?_; conv => whnf)
          refine call_of [] (c_mk N A B (v5 v) (v5 u) (by omega) (by omega) (by omega)) (by rfl) (by rfl) ?_
          conv => whnf
          try (refine And.intro (by repeat first | exact trivial | refine And.intro (by first | rfl | exact trivial) ?_) ?_; conv => whnf)
          refine callL_of [] [8, 9] (c_same (((sameL N A B (v5 v) (v5 u)).drop 0).take N) (by simp; omega)) (by rfl) (by rfl) ?_ ?_ (by exact ⟨rfl, rfl⟩) ?_
          · exact ⟨⟨rfl, by rw [sameL_len]; omega⟩, ⟨rfl, by rw [sameL_len]; omega⟩, trivial⟩
          · trivial
          conv => whnf
          try (refine And.intro (by repeat first | exact trivial | refine And.intro (by first | rfl | exact trivial) ?_) ?_; conv => whnf)
          refine call_of [] (c_awake) (by rfl) (by rfl) ?_
          conv => whnf
          exact end_of [] (by rfl) (by rfl) (by rfl) (by exact ⟨rfl, rfl⟩)
        · conv => whnf
          refine call_of [] (c_awake) (by rfl) (by rfl) ?_
          conv => whnf
          exact end_of [] (by rfl) (by rfl) (by rfl) (by exact ⟨rfl, rfl⟩)
    · conv => whnf
      refine call_of [] (c_awake) (by rfl) (by rfl) ?_
      conv => whnf
      exact end_of [] (by rfl) (by rfl) (by rfl) (by exact ⟨rfl, rfl⟩)
end Sh
end Go.Proofs.Ytanonfilhgkkcaa
