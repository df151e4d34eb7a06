/- MADE BY PROGRAM (skl.py): StackBlocks. -/
import Derived.Test.YtlnloekadohddaaDoorSkI
namespace Go.Proofs.YtlnloekadohddaaDoor
open Go
namespace Sh

def weE (lo : List El_vt) (se : List Bool) (j : Nat) : List Int := (List.range j).map (gtE lo se)
theorem weE_len (lo : List El_vt) (se : List Bool) (j : Nat) : (weE lo se j).length = j := by simp [weE]
theorem weE_succ (lo : List El_vt) (se : List Bool) (j : Nat) : weE lo se (j + 1) = weE lo se j ++ [gtE lo se j] := by simp [weE, List.range_succ]
theorem wrap_u32 {n : Int} (h0 : 0 ≤ n) (h1 : n ≤ 4294967295) : IntKind.u32.wrap n = n := IntWalk.u32_in _ ⟨h0, h1⟩
theorem u32_rg {x : Int} (h : wf .u32 x) : 0 ≤ x ∧ x ≤ 4294967295 := by
  have := h
  simp [wf, Lit.wf] at this
  have h1 : IntKind.u32.min = 0 := by decide
  have h2 : IntKind.u32.max = 4294967295 := by decide
  omega
def bkX (l : List El_grp) (ps ls rs : List El_vt) (w : List Int) : Heap KT ElT := [.cells [.imm .grp l, .imm .vt ps, .imm .vt ls, .imm .vt rs], .row .err w]
def bkW (m j : Int) : List V := [.ptr 6 0, .ptr 0 0, .int .i64 m, .own .err 7 0 m.toNat .whole, .int .i64 j]
theorem weE_get (lo : List El_vt) (se : List Bool) {n j : Nat} (h : j < n) : (weE lo se n).getD (0 + Int.toNat (j : Int)) (S.zero .err) = gtE lo se j := by
  rw [Nat.zero_add, Int.toNat_natCast]
  simp [weE, h]
theorem gtE_nw {n : Nat} {lo : List El_vt} {j : Nat} (h : j < lo.length) : gtE lo (nwSe n lo lo.length) j = if nwE n lo j then 0 else 134 := by
  simp [gtE, nwSe, h]
def bkV (q : List El_vt) (t : List Int) (m w j : Int) : List V := [.imm .vt q, .imm .u32 t, .ptr 6 0, .ptr 0 0, .int .i64 m, .own .err 7 0 w.toNat .whole, .int .i64 j]

set_option maxRecDepth 100000 in
set_option maxHeartbeats 4000000 in
theorem c_blocks (l : List El_grp) (ps ls rs q : List El_vt) (t : List Int) (hl : l.length ≤ 1048576) (hg : ∀ g ∈ l, good_grp 1048576 g) (hp : ps.length ≤ 1048576) (hls : ls.length ≤ 1048576) (hr : rs.length ≤ 1048576)
    (hq : q.length ≤ 1048576) (ht : t.length ≤ 1048576) (hgt : ∀ x ∈ t, wf .u32 x) :
    SpecD S 4 [.agg [.imm .grp l, .imm .vt ps, .imm .vt ls, .imm .vt rs], .imm .vt q, .imm .u32 t] [] (.bool true) [] := by
  have hse : (nwSe ps.length (ps ++ ls) (ps ++ ls).length).length ≤ 4000000 := by rw [nwSe_len]; simp; omega
  have hsl : (nwSe ps.length (ps ++ ls) (ps ++ ls).length).length = (ps ++ ls).length := nwSe_len _ _ _
  have hm : IntKind.i64.wrap ((ps.length : Int) + ls.length) = (ps ++ ls).length := by rw [wrap_i64 (by omega) (by omega)]; simp
  have hlo : (ps ++ ls).length ≤ 2097152 := by simp; omega
  have kB := c_begin l ps ls rs hl hg hp hls hr
  unfold f0N at kB
  generalize hse0 : nwSe ps.length (ps ++ ls) (ps ++ ls).length = se at kB hse hsl
  generalize hlo0 : ps ++ ls = lo at kB hsl hm hlo hse0
  refine specE ok sh4 rfl ?_
  conv => whnf
  refine call_of [] (kB) (by rfl) (by rfl) ?_
  conv => whnf
  try (refine And.intro (by repeat first | exact trivial | refine And.intro (by first | rfl | exact trivial) ?_) ?_; conv => whnf)
  refine call_of [] (c_list q hq) (by rfl) (by rfl) ?_
  conv => whnf
  try (refine And.intro (by repeat first | exact trivial | refine And.intro (by first | rfl | exact trivial) ?_) ?_; conv => whnf)
  rcases Classical.em (q = []) with rfl | hne
  · refine call_of [1, 2, 3, 4, 5, 6] ((c_Pushes_WA 0 [] (Nat.zero_le _) (by omega) (by decide)).1 rfl) (by rfl) (by rfl) ?_
    conv => whnf
    try (refine And.intro (by repeat first | exact trivial | refine And.intro (by first | rfl | exact trivial) ?_) ?_; conv => whnf)
    refine loop_of [.slot 10 .err] [1, 2, 3, 4, 5, 6, 0, 7] (fun vs H => ∃ j : Nat, j ≤ lo.length ∧ vs = bkV ([] : List El_vt) t lo.length j j ∧ H = ck l lo se rs (.own .vt 4 0 ([] : List El_vt).length .whole) (.own .frame 5 0 1 .whole) ([] : List El_vt) [mkF 2 0 none rs se false] ++ bkX l ps ls rs (weE lo se j))
      (fun vs _ => match vs with | [_, _, _, _, _, _, .int _ j] => lo.length - j.toNat | _ => 0) (by rfl) (by rfl) (by rfl) (by rfl) ⟨0, Nat.zero_le _, by rw [← hm]; rfl, ?_⟩ ?_
    · rfl
    rintro vs H1 ⟨j, hj, rfl, rfl⟩
    conv => whnf
    cases hd : decide ((j : Int) < lo.length)
    rotate_left
    · conv => whnf
      have := of_decide_eq_true hd
      have hw : IntKind.i64.wrap ((j : Int) + 1) = ((j + 1 : Nat) : Int) := wrap_i64 (by omega) (by omega)
      rw [show IntKind.u32.wrap (j : Int) = j from wrap_u32 (by omega) (by omega)]
      conv => whnf
      refine call_of [0, 1, 2, 3, 4, 5] (c_Get_WA ([] : List El_vt).length j (by omega) (by omega) hsl) (by rfl) (by rfl) ?_
      conv => whnf
      have hwl := weE_len lo se j
      have hws := weE_succ lo se j
      generalize weE lo se j = w at hwl hws
      generalize gtT lo se j = y
      have e : w.take (j : Int).toNat = w := by rw [Int.toNat_natCast, ← hwl, List.take_length]
      refine ⟨rfl, by simp, ?_⟩
      conv => whnf
      refine ⟨rfl, by show 0 + j ≤ w.length; omega, ⟨by show j + 1 ≤ maxLen; unfold maxLen; omega, by show (j + 1) * 8 ≤ _; omega⟩, rfl, ?_⟩
      conv => whnf
      refine ⟨[0, 1, 2, 3, 4, 5, 6, 10], [], relo_of [0, 1, 2, 3, 4, 5, 6, 10] (by rfl) (by rfl), ?_⟩
      refine ⟨⟨j + 1, by omega, congrArg (bkV ([] : List El_vt) t lo.length (j + 1 : Nat)) hw, ?_⟩, ?_⟩
      · rw [hws]
        conv => rhs; rw [← e]
        rfl
      · show lo.length - (IntKind.i64.wrap ((j : Int) + 1)).toNat < lo.length - (j : Int).toNat
        rw [hw]; omega
    have := of_decide_eq_false hd
    obtain rfl : j = lo.length := by omega
    conv => whnf
    have hww := weE_len lo se lo.length
    refine call_of [0, 1, 2, 3, 4, 5] (c_EnterN_WA 2 (mkF 2 0 none rs se false) ([] : List El_vt).length hse) (by rfl) (by rfl) ?_
    conv => whnf
    try (refine And.intro (by repeat first | exact trivial | refine And.intro (by first | rfl | exact trivial) ?_) ?_; conv => whnf)
    refine loop_of [] [0, 1, 2, 3, 4, 8, 6, 7] (fun vs H => ∃ (j : Nat) (se2 : List Bool), j ≤ t.length ∧ se2.length = lo.length ∧ vs = bkV ([] : List El_vt) t lo.length lo.length j ∧ H = ck l lo se2 rs (.own .vt 4 0 ([] : List El_vt).length .whole) (.own .frame 5 0 2 .whole) ([] : List El_vt) [mkF 2 0 none rs se false, mkF 2 ([] : List El_vt).length (some []) [] se false] ++ bkX l ps ls rs (weE lo se lo.length))
      (fun vs _ => match vs with | [_, _, _, _, _, _, .int _ j] => t.length - j.toNat | _ => 0) (by rfl) (by rfl) (by rfl) (by rfl) ⟨0, se, Nat.zero_le _, hsl, rfl, rfl⟩ ?_
    clear hj hd this
    rintro vs H1 ⟨j, se2, hj, hs2, rfl, rfl⟩
    conv => whnf
    cases hd : decide ((j : Int) < t.length)
    rotate_left
    · conv => whnf
      have := of_decide_eq_true hd
      have hw : IntKind.i64.wrap ((j : Int) + 1) = ((j + 1 : Nat) : Int) := wrap_i64 (by omega) (by omega)
      have hx := getD_at (show j < t.length by omega) (S.zero .u32)
      have hxg := hgt _ (List.mem_of_getElem? hx)
      refine ⟨rfl, by omega, by omega, ?_⟩
      conv => whnf
      refine ⟨by rw [Int.toNat_natCast]; omega, by decide, ?_⟩
      rw [Int.toNat_natCast]
      generalize hxe : t.getD j (S.zero .u32) = x at hx hxg
      have hxr : 0 ≤ x ∧ x ≤ 4294967295 := u32_rg hxg
      obtain ⟨n, rfl⟩ := Int.eq_ofNat_of_zero_le hxr.1
      conv => whnf
      have hci : IntKind.i64.wrap (n : Int) = n := wrap_i64 (by omega) (by omega)
      rcases Nat.lt_or_ge n lo.length with hlt | hge
      · have hT : gtT lo (se2.set n true) n = lo.getD n zvt := by simp [gtT, hlt, hs2]
        have hE : gtE lo (se2.set n true) n = 0 := by simp [gtE, hlt, hs2]
        have kG := c_Get_WB (l := l) (lo := lo) (se := se2.set n true) (re := rs) (op := ([] : List El_vt)) (f0 := mkF 2 0 none rs se false) (f1 := mkF 2 ([] : List El_vt).length (some []) [] se false) ([] : List El_vt).length n (by omega) (by omega) (by simp [hs2])
        rw [hT, hE] at kG
        refine call_of [0, 1, 2, 3, 4, 5] (c_Set_WB1 ([] : List El_vt).length n (by omega) (by omega) hs2 hlt) (by rfl) (by rfl) ?_
        conv => whnf
        refine ⟨rfl, by omega, by omega, ?_⟩
        conv => whnf
        refine ⟨by rw [Int.toNat_natCast]; omega, by decide, ?_⟩
        rw [Int.toNat_natCast, hxe]
        conv => whnf
        rw [hci, show decide ((lo.length : Int) ≤ n) = false from decide_eq_false (by omega)]
        conv => whnf
        refine ⟨rfl, by omega, by omega, ?_⟩
        conv => whnf
        refine ⟨by rw [Int.toNat_natCast]; omega, by decide, ?_⟩
        rw [Int.toNat_natCast, hxe]
        conv => whnf
        refine call_of [0, 1, 2, 3, 4, 5] (kG) (by rfl) (by rfl) ?_
        conv => whnf
        generalize lo.getD n zvt = y
        obtain ⟨a, b, c⟩ := y
        simp only [beq_self_eq_true, Bool.and_self, Bool.not_true]
        conv => whnf
        refine ⟨[0, 1, 2, 3, 4, 5, 6, 7], [], relo_of [0, 1, 2, 3, 4, 5, 6, 7] (by rfl) (by rfl), ?_⟩
        refine ⟨⟨j + 1, se2.set n true, by omega, by simp [hs2], congrArg (bkV ([] : List El_vt) t lo.length lo.length) hw, rfl⟩, ?_⟩
        show t.length - (IntKind.i64.wrap ((j : Int) + 1)).toNat < t.length - (j : Int).toNat
        rw [hw]; omega
      · refine call_of [0, 1, 2, 3, 4, 5] (c_Set_WB0 ([] : List El_vt).length n (by omega) (by omega) hge) (by rfl) (by rfl) ?_
        conv => whnf
        refine ⟨rfl, by omega, by omega, ?_⟩
        conv => whnf
        refine ⟨by rw [Int.toNat_natCast]; omega, by decide, ?_⟩
        rw [Int.toNat_natCast, hxe]
        conv => whnf
        rw [hci, show decide ((lo.length : Int) ≤ n) = true from decide_eq_true (by omega)]
        conv => whnf
        refine ⟨[0, 1, 2, 3, 4, 5, 6, 7], [], relo_of [0, 1, 2, 3, 4, 5, 6, 7] (by rfl) (by rfl), ?_⟩
        refine ⟨⟨j + 1, se2, by omega, hs2, congrArg (bkV ([] : List El_vt) t lo.length lo.length) hw, rfl⟩, ?_⟩
        show t.length - (IntKind.i64.wrap ((j : Int) + 1)).toNat < t.length - (j : Int).toNat
        rw [hw]; omega
    have := of_decide_eq_false hd
    obtain rfl : j = t.length := by omega
    conv => whnf
    refine call_of [0, 1, 2, 3, 4, 5] (c_Leave_WB (mkF 2 0 none rs se false) 2 ([] : List El_vt).length [] se (by decide) hse) (by rfl) (by rfl) ?_
    conv => whnf
    try (refine And.intro (by repeat first | exact trivial | refine And.intro (by first | rfl | exact trivial) ?_) ?_; conv => whnf)
    refine call_of [0, 1, 8, 3, 4, 5] (c_Operands_WC ([] : List El_vt).length (Nat.le_refl _) (Nat.le_trans hq (by decide))) (by rfl) (by rfl) ?_
    conv => whnf
    try (refine And.intro (by repeat first | exact trivial | refine And.intro (by first | rfl | exact trivial) ?_) ?_; conv => whnf)
    rw [List.take_length]
    refine call_of [] (c_same ([] : List El_vt) (Nat.le_trans hq (by decide))) (by rfl) (by rfl) ?_
    conv => whnf
    try (refine And.intro (by repeat first | exact trivial | refine And.intro (by first | rfl | exact trivial) ?_) ?_; conv => whnf)
    refine loop_of [] [0, 1, 8, 3, 4, 5, 6, 7] (fun vs H => ∃ j : Nat, j ≤ lo.length ∧ vs = bkW lo.length j ∧ H = ck l lo se rs (.own .vt 4 0 ([] : List El_vt).length .whole) (.own .frame 5 0 1 .full) ([] : List El_vt) [mkF 2 0 none rs se false, mkF 2 ([] : List El_vt).length (some []) [] se false] ++ bkX l ps ls rs (weE lo se lo.length))
      (fun vs _ => match vs with | [_, _, _, _, .int _ j] => lo.length - j.toNat | _ => 0) (by rfl) (by rfl) (by rfl) (by rfl) ⟨0, Nat.zero_le _, rfl, rfl⟩ ?_
    clear hj hd this hs2 se2
    rintro vs H1 ⟨j, hj, rfl, rfl⟩
    conv => whnf
    cases hd : decide ((j : Int) < lo.length)
    · conv => whnf
      exact end_of [] (by rfl) (by rfl) (by rfl) ⟨rfl, rfl⟩
    conv => whnf
    have := of_decide_eq_true hd
    have hw : IntKind.i64.wrap ((j : Int) + 1) = ((j + 1 : Nat) : Int) := wrap_i64 (by omega) (by omega)
    have hwj : (weE lo se lo.length).getD (0 + Int.toNat (j : Int)) (S.zero .err) = gtE lo se j := weE_get lo se (by omega)
    have kG := c_Get_WC (l := l) (lo := lo) (se := se) (re := rs) (op := ([] : List El_vt)) (f0 := mkF 2 0 none rs se false) (f1 := mkF 2 ([] : List El_vt).length (some []) [] se false) ([] : List El_vt).length j (by omega) (by omega) hsl
    have hge : gtE lo se j = if nwE ps.length lo j then 0 else 134 := by rw [← hse0]; exact gtE_nw (by omega)
    rw [show IntKind.u32.wrap (j : Int) = j from wrap_u32 (by omega) (by omega)]
    conv => whnf
    refine call_of [0, 1, 2, 3, 4, 5] (kG) (by rfl) (by rfl) ?_
    conv => whnf
    rw [hge] at hwj ⊢
    clear kG hge
    unfold nwE at hwj ⊢
    generalize hgv : (if (decide ((j : Int) < ps.length) || dfl (lo.getD j zvt)) = true then (0 : Int) else 134) = g at hwj ⊢
    cases hb : decide ((j : Int) < ps.length)
    rotate_left
    · obtain rfl : g = 0 := by rw [← hgv, hb]; rfl
      conv => whnf
      refine ⟨rfl, by omega, by omega, ?_⟩
      conv => whnf
      refine ⟨rfl, by omega, (by decide : 0 + 1 ≤ 1), ?_⟩
      rw [hwj]
      conv => whnf
      refine ⟨[0, 1, 2, 3, 4, 5, 6, 7], [], relo_of [0, 1, 2, 3, 4, 5, 6, 7] (by rfl) (by rfl), ?_⟩
      refine ⟨⟨j + 1, by omega, congrArg (bkW lo.length) hw, rfl⟩, ?_⟩
      show lo.length - (IntKind.i64.wrap ((j : Int) + 1)).toNat < lo.length - (j : Int).toNat
      rw [hw]; omega
    have hb' := of_decide_eq_false hb
    have hlen : lo.length = ps.length + ls.length := by rw [← hlo0]; simp
    have hsub : IntKind.i64.wrap ((j : Int) - ps.length) = ((j - ps.length : Nat) : Int) := by rw [wrap_i64 (by omega) (by omega)]; omega
    have hY : ls.getD (j - ps.length) (S.zero .vt) = lo.getD j zvt := by
      rw [← hlo0]
      simp only [List.getD_eq_getElem?_getD]
      rw [List.getElem?_append_right (by omega)]
      rfl
    conv => whnf
    refine ⟨rfl, by rw [hsub]; omega, by rw [hsub]; omega, ?_⟩
    conv => whnf
    refine ⟨by rw [hsub, Int.toNat_natCast]; omega, by decide, ?_⟩
    rw [hsub, Int.toNat_natCast, hY]
    generalize lo.getD j zvt = y at hgv ⊢
    conv => whnf
    refine call_of [] (c_dflR y) (by rfl) (by rfl) ?_
    conv => whnf
    cases hf : dfl y
    · obtain rfl : g = 134 := by rw [← hgv, hb, hf]; rfl
      refine ⟨rfl, by omega, by omega, ?_⟩
      conv => whnf
      refine ⟨rfl, by omega, (by decide : 0 + 1 ≤ 1), ?_⟩
      rw [hwj]
      conv => whnf
      refine ⟨[0, 1, 2, 3, 4, 5, 6, 7], [], relo_of [0, 1, 2, 3, 4, 5, 6, 7] (by rfl) (by rfl), ?_⟩
      refine ⟨⟨j + 1, by omega, congrArg (bkW lo.length) hw, rfl⟩, ?_⟩
      show lo.length - (IntKind.i64.wrap ((j : Int) + 1)).toNat < lo.length - (j : Int).toNat
      rw [hw]; omega
    · obtain rfl : g = 0 := by rw [← hgv, hb, hf]; rfl
      refine ⟨rfl, by omega, by omega, ?_⟩
      conv => whnf
      refine ⟨rfl, by omega, (by decide : 0 + 1 ≤ 1), ?_⟩
      rw [hwj]
      conv => whnf
      refine ⟨[0, 1, 2, 3, 4, 5, 6, 7], [], relo_of [0, 1, 2, 3, 4, 5, 6, 7] (by rfl) (by rfl), ?_⟩
      refine ⟨⟨j + 1, by omega, congrArg (bkW lo.length) hw, rfl⟩, ?_⟩
      show lo.length - (IntKind.i64.wrap ((j : Int) + 1)).toNat < lo.length - (j : Int).toNat
      rw [hw]; omega
  · refine call_of [1, 2, 3, 4, 5, 6] ((c_Pushes_WA 0 q (Nat.zero_le _) (by omega) hq).2 hne) (by rfl) (by rfl) ?_
    conv => whnf
    try (refine And.intro (by repeat first | exact trivial | refine And.intro (by first | rfl | exact trivial) ?_) ?_; conv => whnf)
    refine loop_of [.slot 10 .err] [1, 2, 3, 4, 7, 6, 0, 8] (fun vs H => ∃ j : Nat, j ≤ lo.length ∧ vs = bkV q t lo.length j j ∧ H = ck l lo se rs (.own .vt 4 0 q.length .whole) (.own .frame 5 0 1 .whole) q [mkF 2 0 none rs se false] ++ bkX l ps ls rs (weE lo se j))
      (fun vs _ => match vs with | [_, _, _, _, _, _, .int _ j] => lo.length - j.toNat | _ => 0) (by rfl) (by rfl) (by rfl) (by rfl) ⟨0, Nat.zero_le _, by rw [← hm]; rfl, ?_⟩ ?_
    · rfl
    rintro vs H1 ⟨j, hj, rfl, rfl⟩
    conv => whnf
    cases hd : decide ((j : Int) < lo.length)
    rotate_left
    · conv => whnf
      have := of_decide_eq_true hd
      have hw : IntKind.i64.wrap ((j : Int) + 1) = ((j + 1 : Nat) : Int) := wrap_i64 (by omega) (by omega)
      rw [show IntKind.u32.wrap (j : Int) = j from wrap_u32 (by omega) (by omega)]
      conv => whnf
      refine call_of [0, 1, 2, 3, 4, 5] (c_Get_WA q.length j (by omega) (by omega) hsl) (by rfl) (by rfl) ?_
      conv => whnf
      have hwl := weE_len lo se j
      have hws := weE_succ lo se j
      generalize weE lo se j = w at hwl hws
      generalize gtT lo se j = y
      have e : w.take (j : Int).toNat = w := by rw [Int.toNat_natCast, ← hwl, List.take_length]
      refine ⟨rfl, by simp, ?_⟩
      conv => whnf
      refine ⟨rfl, by show 0 + j ≤ w.length; omega, ⟨by show j + 1 ≤ maxLen; unfold maxLen; omega, by show (j + 1) * 8 ≤ _; omega⟩, rfl, ?_⟩
      conv => whnf
      refine ⟨[0, 1, 2, 3, 4, 5, 6, 10], [], relo_of [0, 1, 2, 3, 4, 5, 6, 10] (by rfl) (by rfl), ?_⟩
      refine ⟨⟨j + 1, by omega, congrArg (bkV q t lo.length (j + 1 : Nat)) hw, ?_⟩, ?_⟩
      · rw [hws]
        conv => rhs; rw [← e]
        rfl
      · show lo.length - (IntKind.i64.wrap ((j : Int) + 1)).toNat < lo.length - (j : Int).toNat
        rw [hw]; omega
    have := of_decide_eq_false hd
    obtain rfl : j = lo.length := by omega
    conv => whnf
    have hww := weE_len lo se lo.length
    refine call_of [0, 1, 2, 3, 4, 5] (c_EnterN_WA 2 (mkF 2 0 none rs se false) q.length hse) (by rfl) (by rfl) ?_
    conv => whnf
    try (refine And.intro (by repeat first | exact trivial | refine And.intro (by first | rfl | exact trivial) ?_) ?_; conv => whnf)
    refine loop_of [] [0, 1, 2, 3, 4, 8, 6, 7] (fun vs H => ∃ (j : Nat) (se2 : List Bool), j ≤ t.length ∧ se2.length = lo.length ∧ vs = bkV q t lo.length lo.length j ∧ H = ck l lo se2 rs (.own .vt 4 0 q.length .whole) (.own .frame 5 0 2 .whole) q [mkF 2 0 none rs se false, mkF 2 q.length (some []) [] se false] ++ bkX l ps ls rs (weE lo se lo.length))
      (fun vs _ => match vs with | [_, _, _, _, _, _, .int _ j] => t.length - j.toNat | _ => 0) (by rfl) (by rfl) (by rfl) (by rfl) ⟨0, se, Nat.zero_le _, hsl, rfl, rfl⟩ ?_
    clear hj hd this
    rintro vs H1 ⟨j, se2, hj, hs2, rfl, rfl⟩
    conv => whnf
    cases hd : decide ((j : Int) < t.length)
    rotate_left
    · conv => whnf
      have := of_decide_eq_true hd
      have hw : IntKind.i64.wrap ((j : Int) + 1) = ((j + 1 : Nat) : Int) := wrap_i64 (by omega) (by omega)
      have hx := getD_at (show j < t.length by omega) (S.zero .u32)
      have hxg := hgt _ (List.mem_of_getElem? hx)
      refine ⟨rfl, by omega, by omega, ?_⟩
      conv => whnf
      refine ⟨by rw [Int.toNat_natCast]; omega, by decide, ?_⟩
      rw [Int.toNat_natCast]
      generalize hxe : t.getD j (S.zero .u32) = x at hx hxg
      have hxr : 0 ≤ x ∧ x ≤ 4294967295 := u32_rg hxg
      obtain ⟨n, rfl⟩ := Int.eq_ofNat_of_zero_le hxr.1
      conv => whnf
      have hci : IntKind.i64.wrap (n : Int) = n := wrap_i64 (by omega) (by omega)
      rcases Nat.lt_or_ge n lo.length with hlt | hge
      · have hT : gtT lo (se2.set n true) n = lo.getD n zvt := by simp [gtT, hlt, hs2]
        have hE : gtE lo (se2.set n true) n = 0 := by simp [gtE, hlt, hs2]
        have kG := c_Get_WB (l := l) (lo := lo) (se := se2.set n true) (re := rs) (op := q) (f0 := mkF 2 0 none rs se false) (f1 := mkF 2 q.length (some []) [] se false) q.length n (by omega) (by omega) (by simp [hs2])
        rw [hT, hE] at kG
        refine call_of [0, 1, 2, 3, 4, 5] (c_Set_WB1 q.length n (by omega) (by omega) hs2 hlt) (by rfl) (by rfl) ?_
        conv => whnf
        refine ⟨rfl, by omega, by omega, ?_⟩
        conv => whnf
        refine ⟨by rw [Int.toNat_natCast]; omega, by decide, ?_⟩
        rw [Int.toNat_natCast, hxe]
        conv => whnf
        rw [hci, show decide ((lo.length : Int) ≤ n) = false from decide_eq_false (by omega)]
        conv => whnf
        refine ⟨rfl, by omega, by omega, ?_⟩
        conv => whnf
        refine ⟨by rw [Int.toNat_natCast]; omega, by decide, ?_⟩
        rw [Int.toNat_natCast, hxe]
        conv => whnf
        refine call_of [0, 1, 2, 3, 4, 5] (kG) (by rfl) (by rfl) ?_
        conv => whnf
        generalize lo.getD n zvt = y
        obtain ⟨a, b, c⟩ := y
        simp only [beq_self_eq_true, Bool.and_self, Bool.not_true]
        conv => whnf
        refine ⟨[0, 1, 2, 3, 4, 5, 6, 7], [], relo_of [0, 1, 2, 3, 4, 5, 6, 7] (by rfl) (by rfl), ?_⟩
        refine ⟨⟨j + 1, se2.set n true, by omega, by simp [hs2], congrArg (bkV q t lo.length lo.length) hw, rfl⟩, ?_⟩
        show t.length - (IntKind.i64.wrap ((j : Int) + 1)).toNat < t.length - (j : Int).toNat
        rw [hw]; omega
      · refine call_of [0, 1, 2, 3, 4, 5] (c_Set_WB0 q.length n (by omega) (by omega) hge) (by rfl) (by rfl) ?_
        conv => whnf
        refine ⟨rfl, by omega, by omega, ?_⟩
        conv => whnf
        refine ⟨by rw [Int.toNat_natCast]; omega, by decide, ?_⟩
        rw [Int.toNat_natCast, hxe]
        conv => whnf
        rw [hci, show decide ((lo.length : Int) ≤ n) = true from decide_eq_true (by omega)]
        conv => whnf
        refine ⟨[0, 1, 2, 3, 4, 5, 6, 7], [], relo_of [0, 1, 2, 3, 4, 5, 6, 7] (by rfl) (by rfl), ?_⟩
        refine ⟨⟨j + 1, se2, by omega, hs2, congrArg (bkV q t lo.length lo.length) hw, rfl⟩, ?_⟩
        show t.length - (IntKind.i64.wrap ((j : Int) + 1)).toNat < t.length - (j : Int).toNat
        rw [hw]; omega
    have := of_decide_eq_false hd
    obtain rfl : j = t.length := by omega
    conv => whnf
    refine call_of [0, 1, 2, 3, 4, 5] (c_Leave_WB (mkF 2 0 none rs se false) 2 q.length [] se (by decide) hse) (by rfl) (by rfl) ?_
    conv => whnf
    try (refine And.intro (by repeat first | exact trivial | refine And.intro (by first | rfl | exact trivial) ?_) ?_; conv => whnf)
    refine call_of [0, 1, 8, 3, 4, 5] (c_Operands_WC q.length (Nat.le_refl _) (Nat.le_trans hq (by decide))) (by rfl) (by rfl) ?_
    conv => whnf
    try (refine And.intro (by repeat first | exact trivial | refine And.intro (by first | rfl | exact trivial) ?_) ?_; conv => whnf)
    rw [List.take_length]
    refine call_of [] (c_same q (Nat.le_trans hq (by decide))) (by rfl) (by rfl) ?_
    conv => whnf
    try (refine And.intro (by repeat first | exact trivial | refine And.intro (by first | rfl | exact trivial) ?_) ?_; conv => whnf)
    refine loop_of [] [0, 1, 8, 3, 4, 5, 6, 7] (fun vs H => ∃ j : Nat, j ≤ lo.length ∧ vs = bkW lo.length j ∧ H = ck l lo se rs (.own .vt 4 0 q.length .whole) (.own .frame 5 0 1 .full) q [mkF 2 0 none rs se false, mkF 2 q.length (some []) [] se false] ++ bkX l ps ls rs (weE lo se lo.length))
      (fun vs _ => match vs with | [_, _, _, _, .int _ j] => lo.length - j.toNat | _ => 0) (by rfl) (by rfl) (by rfl) (by rfl) ⟨0, Nat.zero_le _, rfl, rfl⟩ ?_
    clear hj hd this hs2 se2
    rintro vs H1 ⟨j, hj, rfl, rfl⟩
    conv => whnf
    cases hd : decide ((j : Int) < lo.length)
    · conv => whnf
      exact end_of [] (by rfl) (by rfl) (by rfl) ⟨rfl, rfl⟩
    conv => whnf
    have := of_decide_eq_true hd
    have hw : IntKind.i64.wrap ((j : Int) + 1) = ((j + 1 : Nat) : Int) := wrap_i64 (by omega) (by omega)
    have hwj : (weE lo se lo.length).getD (0 + Int.toNat (j : Int)) (S.zero .err) = gtE lo se j := weE_get lo se (by omega)
    have kG := c_Get_WC (l := l) (lo := lo) (se := se) (re := rs) (op := q) (f0 := mkF 2 0 none rs se false) (f1 := mkF 2 q.length (some []) [] se false) q.length j (by omega) (by omega) hsl
    have hge : gtE lo se j = if nwE ps.length lo j then 0 else 134 := by rw [← hse0]; exact gtE_nw (by omega)
    rw [show IntKind.u32.wrap (j : Int) = j from wrap_u32 (by omega) (by omega)]
    conv => whnf
    refine call_of [0, 1, 2, 3, 4, 5] (kG) (by rfl) (by rfl) ?_
    conv => whnf
    rw [hge] at hwj ⊢
    clear kG hge
    unfold nwE at hwj ⊢
    generalize hgv : (if (decide ((j : Int) < ps.length) || dfl (lo.getD j zvt)) = true then (0 : Int) else 134) = g at hwj ⊢
    cases hb : decide ((j : Int) < ps.length)
    rotate_left
    · obtain rfl : g = 0 := by rw [← hgv, hb]; rfl
      conv => whnf
      refine ⟨rfl, by omega, by omega, ?_⟩
      conv => whnf
      refine ⟨rfl, by omega, (by decide : 0 + 1 ≤ 1), ?_⟩
      rw [hwj]
      conv => whnf
      refine ⟨[0, 1, 2, 3, 4, 5, 6, 7], [], relo_of [0, 1, 2, 3, 4, 5, 6, 7] (by rfl) (by rfl), ?_⟩
      refine ⟨⟨j + 1, by omega, congrArg (bkW lo.length) hw, rfl⟩, ?_⟩
      show lo.length - (IntKind.i64.wrap ((j : Int) + 1)).toNat < lo.length - (j : Int).toNat
      rw [hw]; omega
    have hb' := of_decide_eq_false hb
    have hlen : lo.length = ps.length + ls.length := by rw [← hlo0]; simp
    have hsub : IntKind.i64.wrap ((j : Int) - ps.length) = ((j - ps.length : Nat) : Int) := by rw [wrap_i64 (by omega) (by omega)]; omega
    have hY : ls.getD (j - ps.length) (S.zero .vt) = lo.getD j zvt := by
      rw [← hlo0]
      simp only [List.getD_eq_getElem?_getD]
      rw [List.getElem?_append_right (by omega)]
      rfl
    conv => whnf
    refine ⟨rfl, by rw [hsub]; omega, by rw [hsub]; omega, ?_⟩
    conv => whnf
    refine ⟨by rw [hsub, Int.toNat_natCast]; omega, by decide, ?_⟩
    rw [hsub, Int.toNat_natCast, hY]
    generalize lo.getD j zvt = y at hgv ⊢
    conv => whnf
    refine call_of [] (c_dflR y) (by rfl) (by rfl) ?_
    conv => whnf
    cases hf : dfl y
    · obtain rfl : g = 134 := by rw [← hgv, hb, hf]; rfl
      refine ⟨rfl, by omega, by omega, ?_⟩
      conv => whnf
      refine ⟨rfl, by omega, (by decide : 0 + 1 ≤ 1), ?_⟩
      rw [hwj]
      conv => whnf
      refine ⟨[0, 1, 2, 3, 4, 5, 6, 7], [], relo_of [0, 1, 2, 3, 4, 5, 6, 7] (by rfl) (by rfl), ?_⟩
      refine ⟨⟨j + 1, by omega, congrArg (bkW lo.length) hw, rfl⟩, ?_⟩
      show lo.length - (IntKind.i64.wrap ((j : Int) + 1)).toNat < lo.length - (j : Int).toNat
      rw [hw]; omega
    · obtain rfl : g = 0 := by rw [← hgv, hb, hf]; rfl
      refine ⟨rfl, by omega, by omega, ?_⟩
      conv => whnf
      refine ⟨rfl, by omega, (by decide : 0 + 1 ≤ 1), ?_⟩
      rw [hwj]
      conv => whnf
      refine ⟨[0, 1, 2, 3, 4, 5, 6, 7], [], relo_of [0, 1, 2, 3, 4, 5, 6, 7] (by rfl) (by rfl), ?_⟩
      refine ⟨⟨j + 1, by omega, congrArg (bkW lo.length) hw, rfl⟩, ?_⟩
      show lo.length - (IntKind.i64.wrap ((j : Int) + 1)).toNat < lo.length - (j : Int).toNat
      rw [hw]; omega

end Sh
end Go.Proofs.YtlnloekadohddaaDoor
