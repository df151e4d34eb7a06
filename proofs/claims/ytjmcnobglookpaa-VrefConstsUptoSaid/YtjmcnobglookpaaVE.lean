/- MADE BY PROGRAM (ve.py): constant expressions. -/
import Derived.Test.YtjmcnobglookpaaVD
import Derived.Test.YtjmcnobglookpaaReads
namespace Go.Proofs.Ytjmcnobglookpaa
open Go
namespace Sh
def LST : List Int := [65, 66, 67, 68, 106, 107, 108, 124, 125, 126, 208, 210, 64256, 64257, 64262, 64263, 64264, 64282, 64283, 64284]
noncomputable def stp (gs : List El_glob) (g : Int) (o x : Int) : Int := if o ∈ LST then 0 else if o = 35 then (if g ≤ x ∨ (gs.length : Int) ≤ x then 150 else if (gs.getD x.toNat (S.zero .glob)).mu = true then 161 else 0) else 160
def cst (f : El_instr → Int) : List El_instr → Nat → Int × Int
  | [], _ => (0, 0)
  | r :: t, j => if f r = 0 then cst f t (j + 1) else ((j : Int), f r)
theorem cst_at {f : El_instr → Int} {l : List El_instr} {j : Nat} {r : El_instr} (h : l[j]? = some r) : cst f (l.drop j) j = if f r = 0 then cst f (l.drop (j + 1)) (j + 1) else ((j : Int), f r) := by
  obtain ⟨h1, h2⟩ := List.getElem?_eq_some_iff.1 h
  rw [List.drop_eq_getElem_cons h1, h2]; rfl
theorem rg_u32 {x : Int} (h : wf .u32 x) : 0 ≤ x ∧ x ≤ 4294967295 := by
  have := h
  simp [wf, Lit.wf] at this
  have h1 : IntKind.u32.min = 0 := by decide
  have h2 : IntKind.u32.max = 4294967295 := by decide
  omega
theorem wrap_u64 {n : Int} (h0 : 0 ≤ n) (h1 : n ≤ 18446744073709551615) : IntKind.u64.wrap n = n := IntWalk.u64_in _ ⟨h0, h1⟩

set_option maxRecDepth 100000 in
theorem c_there (x n : Int) (h0 : 0 ≤ x) (h1 : x ≤ 4294967295) : SpecD S 9 [.int .u32 x, .int .i64 n] [] (.bool (decide (x < n))) [] := by
  have hw : IntKind.i64.wrap x = x := wrap_i64 (by omega) (by omega)
  refine specE ok sh9 rfl ?_
  conv => whnf
  rw [hw]
  exact end_of [] (by rfl) (by rfl) (by rfl) (by exact ⟨rfl, rfl⟩)

structure Cx where
  fu : List Int
  gs : List El_glob
  ta : List Int
  es : List El_vt
  da : Int
def Cx.cells (c : Cx) : List V := [.cell, .imm .int c.fu, .cell, .cell, .imm .glob c.gs, .imm .int c.ta, .imm .vt c.es, .int .i64 c.da, .cell]
def coV (l : List El_instr) (g j : Int) : List V := [.int .i64 g, .ptr 0 0, .imm .instr l, .int .i64 l.length, .int .i64 j]
def crV (l : List El_instr) (g j : Int) : List V := [.imm .instr l, .int .i64 g, .ptr 0 0, .int .i64 j]

set_option maxRecDepth 100000 in
set_option maxHeartbeats 8000000 in
theorem c_const4 (c : Cx) (l : List El_instr) (g : Int) (hl : l.length ≤ 1048576) (hgl : c.gs.length ≤ 1048576) (hg : ∀ r ∈ l, good_instr 1048576 r) :
    SpecD S 4 [.agg c.cells, .imm .instr l, .int .i64 g] [] (.tup [.int .i64 (cst (fun r => stp c.gs g r.op r.x) l 0).1, .int .i64 (cst (fun r => stp c.gs g r.op r.x) l 0).2]) [] := by
  generalize hR : cst (fun r => stp c.gs g r.op r.x) l 0 = R
  refine specE ok sh4 rfl ?_
  conv => whnf
  refine loop_of [] [0] (fun vs H => ∃ (j : Nat), j ≤ l.length ∧ cst (fun r => stp c.gs g r.op r.x) (l.drop j) j = R ∧ vs = coV l g j ∧ H = [.cells c.cells])
    (fun vs _ => match vs with | [_, _, _, _, .int _ j] => l.length - j.toNat | _ => 0) (by rfl) (by rfl) (by rfl) (by rfl) ⟨0, Nat.zero_le _, hR, rfl, rfl⟩ ?_
  rintro vs H1 ⟨j, hj, hR, rfl, rfl⟩
  conv => whnf
  cases hd : decide ((j : Int) < l.length)
  · conv => whnf
    have := of_decide_eq_false hd
    rw [List.drop_eq_nil_of_le (by omega)] at hR
    rw [← hR]
    exact end_of [] (by rfl) (by rfl) (by rfl) ⟨rfl, rfl⟩
  conv => whnf
  have := of_decide_eq_true hd
  have hw : IntKind.i64.wrap ((j : Int) + 1) = ((j + 1 : Nat) : Int) := wrap_i64 (by omega) (by omega)
  have hy := getD_at (show j < l.length by omega) (S.zero .instr)
  have hgy := hg _ (List.mem_of_getElem? hy)
  refine ⟨rfl, by omega, by omega, ?_⟩
  conv => whnf
  refine ⟨by rw [Int.toNat_natCast]; omega, by decide, ?_⟩
  rw [Int.toNat_natCast]
  generalize hye : l.getD j (S.zero .instr) = r at hy hgy
  rw [cst_at hy] at hR
  obtain ⟨o, x, y, n, al, me, off, bt, bn, bl, bh, bo, es, he, la, ty, ca⟩ := r
  obtain ⟨_, hx0, ⟨b1, q1⟩, ⟨b2, q2⟩, ⟨b3, q3⟩, ⟨b4, q4⟩, ⟨b5, q5⟩⟩ := hgy
  have hx := rg_u32 hx0
  clear hx0
  simp only at hx hR q1 q2 q3 q4 q5
  subst q1; subst q2; subst q3; subst q4; subst q5
  conv => whnf
  by_cases hm : o ∈ LST
  · rw [if_pos (by rw [stp, if_pos hm])] at hR
    have hm' := hm
    simp only [LST, List.mem_cons, List.not_mem_nil, or_false] at hm'
    clear hm
    rcases hm' with rfl | rfl | rfl | rfl | rfl | rfl | rfl | rfl | rfl | rfl | rfl | rfl | rfl | rfl | rfl | rfl | rfl | rfl | rfl | rfl
    all_goals conv => whnf
    all_goals refine ⟨[0], [], relo_of [0] (by rfl) (by rfl), ?_⟩
    all_goals refine ⟨⟨j + 1, by omega, hR, congrArg (coV l g) hw, rfl⟩, ?_⟩
    all_goals show l.length - (IntKind.i64.wrap ((j : Int) + 1)).toNat < l.length - (j : Int).toNat
    all_goals rw [hw]; omega
  have hst : stp c.gs g o x = if o = 35 then (if g ≤ x ∨ (c.gs.length : Int) ≤ x then 150 else if (c.gs.getD x.toNat (S.zero .glob)).mu = true then 161 else 0) else 160 := by rw [stp, if_neg hm]
  by_cases h35 : o = 35
  · rw [if_pos h35] at hst
    subst h35
    clear hm
    conv => whnf
    refine call_of [] (c_there x g hx.1 hx.2) (by rfl) (by rfl) ?_
    conv => whnf
    cases h1 : decide (x < g)
    · have h1' := of_decide_eq_false h1
      conv => whnf
      have hs : stp c.gs g 35 x = 150 := by rw [hst, if_pos (.inl (by omega))]
      rw [hs, if_neg (by decide)] at hR
      rw [← hR]
      exact end_of [] (by rfl) (by rfl) (by rfl) ⟨rfl, rfl⟩
    have h1' := of_decide_eq_true h1
    conv => whnf
    refine call_of [] (c_there x c.gs.length hx.1 hx.2) (by rfl) (by rfl) ?_
    conv => whnf
    cases h2 : decide (x < (c.gs.length : Int))
    · have h2' := of_decide_eq_false h2
      conv => whnf
      have hs : stp c.gs g 35 x = 150 := by rw [hst, if_pos (.inr (by omega))]
      rw [hs, if_neg (by decide)] at hR
      rw [← hR]
      exact end_of [] (by rfl) (by rfl) (by rfl) ⟨rfl, rfl⟩
    have h2' := of_decide_eq_true h2
    conv => whnf
    refine ⟨rfl, by show 0 ≤ x; omega, by show x < (c.gs.length : Int); omega, ?_⟩
    conv => whnf
    refine ⟨by show x.toNat < c.gs.length; omega, (by decide : 3 + 1 ≤ 4), ?_⟩
    rw [show c.gs.getD ((⟨35, x, y, n, al, me, off, bt, bn, bl, bh, some b1, some b2, he, some b3, some b4, some b5⟩ : El_instr).x).toNat (S.zero .glob) = c.gs.getD x.toNat (S.zero .glob) from rfl]
    generalize c.gs.getD x.toNat (S.zero .glob) = gl at hst ⊢
    obtain ⟨g1, g2, g3, g4⟩ := gl
    cases g4
    · conv => whnf
      have hs : stp c.gs g 35 x = 0 := by rw [hst, if_neg (by omega), if_neg (show ¬ (false = true) by simp)]
      rw [if_pos hs] at hR
      refine ⟨[0], [], relo_of [0] (by rfl) (by rfl), ?_⟩
      refine ⟨⟨j + 1, by omega, hR, congrArg (coV l g) hw, rfl⟩, ?_⟩
      show l.length - (IntKind.i64.wrap ((j : Int) + 1)).toNat < l.length - (j : Int).toNat
      rw [hw]; omega
    · conv => whnf
      have hs : stp c.gs g 35 x = 161 := by rw [hst, if_neg (by omega), if_pos rfl]
      rw [hs, if_neg (by decide)] at hR
      rw [← hR]
      exact end_of [] (by rfl) (by rfl) (by rfl) ⟨rfl, rfl⟩

  · rw [if_neg h35] at hst
    rw [hst, if_neg (by decide)] at hR
    simp only [LST, List.mem_cons, List.not_mem_nil, or_false, not_or] at hm
    obtain ⟨m0, m1, m2, m3, m4, m5, m6, m7, m8, m9, m10, m11, m12, m13, m14, m15, m16, m17, m18, m19⟩ := hm
    rw [show (o == 65) = false by simpa using m0]
    conv => whnf
    rw [show (o == 66) = false by simpa using m1]
    conv => whnf
    rw [show (o == 67) = false by simpa using m2]
    conv => whnf
    rw [show (o == 68) = false by simpa using m3]
    conv => whnf
    rw [show (o == 106) = false by simpa using m4]
    conv => whnf
    rw [show (o == 107) = false by simpa using m5]
    conv => whnf
    rw [show (o == 108) = false by simpa using m6]
    conv => whnf
    rw [show (o == 124) = false by simpa using m7]
    conv => whnf
    rw [show (o == 125) = false by simpa using m8]
    conv => whnf
    rw [show (o == 126) = false by simpa using m9]
    conv => whnf
    rw [show (o == 208) = false by simpa using m10]
    conv => whnf
    rw [show (o == 210) = false by simpa using m11]
    conv => whnf
    rw [show (o == 64256) = false by simpa using m12]
    conv => whnf
    rw [show (o == 64257) = false by simpa using m13]
    conv => whnf
    rw [show (o == 64262) = false by simpa using m14]
    conv => whnf
    rw [show (o == 64263) = false by simpa using m15]
    conv => whnf
    rw [show (o == 64264) = false by simpa using m16]
    conv => whnf
    rw [show (o == 64282) = false by simpa using m17]
    conv => whnf
    rw [show (o == 64283) = false by simpa using m18]
    conv => whnf
    rw [show (o == 64284) = false by simpa using m19]
    conv => whnf
    rw [show (o == 35) = false by simpa using h35]
    conv => whnf
    rw [← hR]
    exact end_of [] (by rfl) (by rfl) (by rfl) ⟨rfl, rfl⟩

set_option maxRecDepth 100000 in
set_option maxHeartbeats 8000000 in
theorem c_const5 (c : Cx) (l : List El_instr) (g : Int) (hl : l.length ≤ 1048576) (hgl : c.gs.length ≤ 1048576) (hg : ∀ r ∈ l, good_instr 1048576 r) :
    SpecD S 5 [.agg c.cells, .imm .instr l, .int .i64 g] [] (.tup [.int .i64 (cst (fun r => stp c.gs g r.op r.x) l 0).1, .int .i64 (cst (fun r => stp c.gs g r.op r.x) l 0).2]) [] := by
  generalize hR : cst (fun r => stp c.gs g r.op r.x) l 0 = R
  refine specE ok sh5 rfl ?_
  conv => whnf
  refine loop_of [] [0] (fun vs H => ∃ (j : Nat), j ≤ l.length ∧ cst (fun r => stp c.gs g r.op r.x) (l.drop j) j = R ∧ vs = crV l g j ∧ H = [.cells c.cells])
    (fun vs _ => match vs with | [_, _, _, .int _ j] => l.length - j.toNat | _ => 0) (by rfl) (by rfl) (by rfl) (by rfl) ⟨0, Nat.zero_le _, hR, rfl, rfl⟩ ?_
  rintro vs H1 ⟨j, hj, hR, rfl, rfl⟩
  conv => whnf
  cases hd : decide ((j : Int) < l.length)
  · conv => whnf
    have := of_decide_eq_false hd
    rw [List.drop_eq_nil_of_le (by omega)] at hR
    rw [← hR]
    exact end_of [] (by rfl) (by rfl) (by rfl) ⟨rfl, rfl⟩
  conv => whnf
  have := of_decide_eq_true hd
  have hw : IntKind.i64.wrap ((j : Int) + 1) = ((j + 1 : Nat) : Int) := wrap_i64 (by omega) (by omega)
  have hy := getD_at (show j < l.length by omega) (S.zero .instr)
  have hgy := hg _ (List.mem_of_getElem? hy)
  refine ⟨rfl, by omega, by omega, ?_⟩
  conv => whnf
  refine ⟨by rw [Int.toNat_natCast]; omega, by decide, ?_⟩
  rw [Int.toNat_natCast]
  generalize hye : l.getD j (S.zero .instr) = r at hy hgy
  rw [cst_at hy] at hR
  obtain ⟨o, x, y, n, al, me, off, bt, bn, bl, bh, bo, es, he, la, ty, ca⟩ := r
  obtain ⟨_, hx0, ⟨b1, q1⟩, ⟨b2, q2⟩, ⟨b3, q3⟩, ⟨b4, q4⟩, ⟨b5, q5⟩⟩ := hgy
  have hx := rg_u32 hx0
  clear hx0
  simp only at hx hR q1 q2 q3 q4 q5
  subst q1; subst q2; subst q3; subst q4; subst q5
  conv => whnf
  by_cases hm : o ∈ LST
  · rw [if_pos (by rw [stp, if_pos hm])] at hR
    have hm' := hm
    simp only [LST, List.mem_cons, List.not_mem_nil, or_false] at hm'
    clear hm
    rcases hm' with rfl | rfl | rfl | rfl | rfl | rfl | rfl | rfl | rfl | rfl | rfl | rfl | rfl | rfl | rfl | rfl | rfl | rfl | rfl | rfl
    all_goals conv => whnf
    all_goals refine ⟨[0], [], relo_of [0] (by rfl) (by rfl), ?_⟩
    all_goals refine ⟨⟨j + 1, by omega, hR, congrArg (crV l g) hw, rfl⟩, ?_⟩
    all_goals show l.length - (IntKind.i64.wrap ((j : Int) + 1)).toNat < l.length - (j : Int).toNat
    all_goals rw [hw]; omega
  have hst : stp c.gs g o x = if o = 35 then (if g ≤ x ∨ (c.gs.length : Int) ≤ x then 150 else if (c.gs.getD x.toNat (S.zero .glob)).mu = true then 161 else 0) else 160 := by rw [stp, if_neg hm]
  by_cases h35 : o = 35
  · rw [if_pos h35] at hst
    subst h35
    clear hm
    conv => whnf
    refine ⟨rfl, by omega, by omega, ?_⟩
    conv => whnf
    refine ⟨by rw [Int.toNat_natCast]; omega, by decide, ?_⟩
    rw [Int.toNat_natCast, hye]
    conv => whnf
    rw [show IntKind.i64.wrap x = x from wrap_i64 (by omega) (by omega)]
    cases h1 : decide (g ≤ x)
    rotate_left
    · have h1' := of_decide_eq_true h1
      conv => whnf
      have hs : stp c.gs g 35 x = 150 := by rw [hst, if_pos (.inl h1')]
      rw [hs, if_neg (by decide)] at hR
      rw [← hR]
      exact end_of [] (by rfl) (by rfl) (by rfl) ⟨rfl, rfl⟩
    have h1' := of_decide_eq_false h1
    conv => whnf
    refine ⟨rfl, by omega, by omega, ?_⟩
    conv => whnf
    refine ⟨by rw [Int.toNat_natCast]; omega, by decide, ?_⟩
    rw [Int.toNat_natCast, hye]
    conv => whnf
    rw [show IntKind.u64.wrap x = x from wrap_u64 (by omega) (by omega), show IntKind.u64.wrap (c.gs.length : Int) = c.gs.length from wrap_u64 (by omega) (by omega)]
    cases h2 : decide ((c.gs.length : Int) ≤ x)
    rotate_left
    · have h2' := of_decide_eq_true h2
      conv => whnf
      have hs : stp c.gs g 35 x = 150 := by rw [hst, if_pos (.inr h2')]
      rw [hs, if_neg (by decide)] at hR
      rw [← hR]
      exact end_of [] (by rfl) (by rfl) (by rfl) ⟨rfl, rfl⟩
    have h2' := of_decide_eq_false h2
    conv => whnf
    refine ⟨rfl, by omega, by omega, ?_⟩
    conv => whnf
    refine ⟨by rw [Int.toNat_natCast]; omega, by decide, ?_⟩
    rw [Int.toNat_natCast, hye]
    conv => whnf
    refine ⟨rfl, by show 0 ≤ x; omega, by show x < (c.gs.length : Int); omega, ?_⟩
    conv => whnf
    refine ⟨by show x.toNat < c.gs.length; omega, (by decide : 3 + 1 ≤ 4), ?_⟩
    rw [show c.gs.getD ((⟨35, x, y, n, al, me, off, bt, bn, bl, bh, some b1, some b2, he, some b3, some b4, some b5⟩ : El_instr).x).toNat (S.zero .glob) = c.gs.getD x.toNat (S.zero .glob) from rfl]
    generalize c.gs.getD x.toNat (S.zero .glob) = gl at hst ⊢
    obtain ⟨g1, g2, g3, g4⟩ := gl
    cases g4
    · conv => whnf
      have hs : stp c.gs g 35 x = 0 := by rw [hst, if_neg (by omega), if_neg (show ¬ (false = true) by simp)]
      rw [if_pos hs] at hR
      refine ⟨[0], [], relo_of [0] (by rfl) (by rfl), ?_⟩
      refine ⟨⟨j + 1, by omega, hR, congrArg (crV l g) hw, rfl⟩, ?_⟩
      show l.length - (IntKind.i64.wrap ((j : Int) + 1)).toNat < l.length - (j : Int).toNat
      rw [hw]; omega
    · conv => whnf
      have hs : stp c.gs g 35 x = 161 := by rw [hst, if_neg (by omega), if_pos rfl]
      rw [hs, if_neg (by decide)] at hR
      rw [← hR]
      exact end_of [] (by rfl) (by rfl) (by rfl) ⟨rfl, rfl⟩

  · rw [if_neg h35] at hst
    rw [hst, if_neg (by decide)] at hR
    simp only [LST, List.mem_cons, List.not_mem_nil, or_false, not_or] at hm
    obtain ⟨m0, m1, m2, m3, m4, m5, m6, m7, m8, m9, m10, m11, m12, m13, m14, m15, m16, m17, m18, m19⟩ := hm
    rw [show (o == 65) = false by simpa using m0]
    conv => whnf
    rw [show (o == 66) = false by simpa using m1]
    conv => whnf
    rw [show (o == 67) = false by simpa using m2]
    conv => whnf
    rw [show (o == 68) = false by simpa using m3]
    conv => whnf
    rw [show (o == 106) = false by simpa using m4]
    conv => whnf
    rw [show (o == 107) = false by simpa using m5]
    conv => whnf
    rw [show (o == 108) = false by simpa using m6]
    conv => whnf
    rw [show (o == 124) = false by simpa using m7]
    conv => whnf
    rw [show (o == 125) = false by simpa using m8]
    conv => whnf
    rw [show (o == 126) = false by simpa using m9]
    conv => whnf
    rw [show (o == 208) = false by simpa using m10]
    conv => whnf
    rw [show (o == 210) = false by simpa using m11]
    conv => whnf
    rw [show (o == 64256) = false by simpa using m12]
    conv => whnf
    rw [show (o == 64257) = false by simpa using m13]
    conv => whnf
    rw [show (o == 64262) = false by simpa using m14]
    conv => whnf
    rw [show (o == 64263) = false by simpa using m15]
    conv => whnf
    rw [show (o == 64264) = false by simpa using m16]
    conv => whnf
    rw [show (o == 64282) = false by simpa using m17]
    conv => whnf
    rw [show (o == 64283) = false by simpa using m18]
    conv => whnf
    rw [show (o == 64284) = false by simpa using m19]
    conv => whnf
    rw [show (o == 35) = false by simpa using h35]
    conv => whnf
    rw [← hR]
    exact end_of [] (by rfl) (by rfl) (by rfl) ⟨rfl, rfl⟩

end Sh
end Go.Proofs.Ytjmcnobglookpaa
