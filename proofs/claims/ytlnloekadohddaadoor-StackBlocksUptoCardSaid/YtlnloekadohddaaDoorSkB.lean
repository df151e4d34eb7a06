/- keep: a list of groups in memory of its own. -/
import Derived.Test.YtlnloekadohddaaDoorSkA
import Derived.Test.YtlnloekadohddaaDoorReads
namespace Go.Proofs.YtlnloekadohddaaDoor
open Go
namespace Sh

def kpV (l : List El_grp) (j : Int) : List V := [.own .grp 0 0 l.length .whole, .int .i64 l.length, .int .i64 j]
def kpW (l : List El_grp) (i j m k : Int) : List V := [.own .grp 0 0 l.length .whole, .int .i64 i, .int .i64 l.length, .int .i64 j, .int .i64 m, .int .i64 k]
def kpI (l : List El_grp) (vs : List V) (H : Heap KT ElT) : Prop :=
  ∃ j : Nat, j ≤ l.length ∧ vs = kpV l j ∧ ((j < l.length ∧ H = [.rowx .grp l j (S.enc .grp (l.getD j (S.zero .grp)))]) ∨ (j = l.length ∧ H = [.row .grp l]))

theorem kp_next (l : List El_grp) (j : Nat) (hj : j ≤ l.length) : ∃ H3, HGh S [AO.row .grp l] H3 ∧ kpI l (kpV l j) H3 := by
  rcases Nat.lt_or_ge j l.length with h | h
  · exact ⟨_, .openx 0 j .grp l rfl h (.refl _), j, hj, rfl, .inl ⟨h, rfl⟩⟩
  · exact ⟨_, .refl _, j, hj, rfl, .inr ⟨by omega, rfl⟩⟩

theorem set_same {α : Type} {l : List α} {j : Nat} {x : α} (h : l[j]? = some x) : l.set j x = l := by
  obtain ⟨h1, h2⟩ := List.getElem?_eq_some_iff.1 h
  rw [← h2]; exact List.set_getElem_self h1

theorem getD_at {α : Type} {l : List α} {j : Nat} (h : j < l.length) (z : α) : l[j]? = some (l.getD j z) := by simp [h]

set_option maxRecDepth 100000 in
set_option maxHeartbeats 2000000 in
theorem c_keep (l : List El_grp) (hl : l.length ≤ 1048576) (hg : ∀ g ∈ l, good_grp 1048576 g) : SpecD S 35 [.imm .grp l] [] (.imm .grp l) [] := by
  obtain ⟨H3, hx, hi⟩ := kp_next l 0 (Nat.zero_le _)
  refine specE ok sh35 rfl ?_
  conv => whnf
  refine call_of [] (c_cpO_grp l hl) (by rfl) (by rfl) ?_
  conv => whnf
  refine loopX_of (H' := [AO.row .grp l]) (H3 := H3) [] [0] [] (kpI l) (fun vs _ => match vs with | [_, _, .int _ j] => l.length - j.toNat | _ => 0) (by rfl) (by rfl) (relo_of [0] (by rfl) (by rfl)) hx ?_ ?_
  · exact hi
  clear hi hx H3
  rintro vs H1 ⟨j, hj, rfl, ⟨hlt, rfl⟩ | ⟨rfl, rfl⟩⟩
  rotate_left
  · conv => whnf
    cases hd : decide ((l.length : Int) < l.length)
    rotate_left
    · have := of_decide_eq_true hd
      omega
    conv => whnf
    refine endL_of [] [0] (by rfl) (by rfl) (by rfl) trivial ⟨rfl, by simp⟩ ⟨?_, rfl⟩
    show (AV.imm .grp ((l.drop 0).take l.length) : V) = _
    rw [drop_take]
  have hlj := getD_at hlt (S.zero .grp)
  have hgy := hg _ (List.mem_of_getElem? hlj)
  generalize l.getD j (S.zero .grp) = y at hlj hgy
  obtain ⟨ty, ex⟩ := y
  obtain ⟨ys, hys, hyl, hyg⟩ := hgy
  simp only at hys
  subst hys
  have hw1 : IntKind.i64.wrap ((j : Int) + 1) = ((j + 1 : Nat) : Int) := wrap_i64 (by omega) (by omega)
  conv => whnf
  cases hd : decide ((j : Int) < l.length)
  · have := of_decide_eq_false hd
    omega
  conv => whnf
  refine ⟨rfl, by omega, by omega, ?_⟩
  conv => whnf
  refine ⟨rfl, by simp, (by decide : 0 + 1 ≤ 2), ?_⟩
  conv => whnf
  refine call_of [] (c_cpO_sub ys hyl) (by rfl) (by rfl) ?_
  conv => whnf
  refine ⟨rfl, by omega, by omega, ?_⟩
  conv => whnf
  refine ⟨rfl, by simp, (by decide : 0 + 1 ≤ 2), ?_⟩
  conv => whnf
  refine ⟨rfl, by omega, by omega, ?_⟩
  conv => whnf
  refine ⟨rfl, by simp, (by decide : 0 + 1 ≤ 2), ?_⟩
  conv => whnf
  refine loop_of [] [0, 1] (fun vs H => ∃ k : Nat, k ≤ ys.length ∧ vs = kpW l j j ys.length k ∧ H = [.rowx .grp l j [.own .sub 1 0 ys.length .whole, .bool ex], .row .sub ys])
    (fun vs _ => match vs with | [_, _, _, _, _, .int _ k] => ys.length - k.toNat | _ => 0) (by rfl) (by rfl) (by rfl) (by rfl) ⟨0, Nat.zero_le _, rfl, rfl⟩ ?_
  rintro vs H1 ⟨k, hk, rfl, rfl⟩
  conv => whnf
  cases hd2 : decide ((k : Int) < ys.length)
  · conv => whnf
    obtain ⟨H3, hx, hi⟩ := kp_next l (j + 1) hlt
    refine ⟨[0], [1], reloL_of [0] [1] (by rfl) (by rfl) ⟨⟨⟨rfl, by simp⟩, trivial, trivial⟩, trivial⟩ ⟨trivial, trivial, trivial, trivial⟩, H3, ?_, ?_, ?_⟩
    · refine HGh.closex 0 j .grp l [.imm .sub ((ys.drop 0).take ys.length), .bool ex] ⟨some ys, ex⟩ rfl (by rw [drop_take]; rfl) ?_
      show HGh S [AO.row .grp (l.set j ⟨some ys, ex⟩)] H3
      rw [set_same hlj]
      exact hx
    · rw [← hw1] at hi
      exact hi
    · show l.length - (IntKind.i64.wrap ((j : Int) + 1)).toNat < l.length - (j : Int).toNat
      rw [hw1]; omega
  conv => whnf
  have hk2 := of_decide_eq_true hd2
  have hlk := getD_at (show k < ys.length by omega) (S.zero .sub)
  have hgz := hyg _ (List.mem_of_getElem? hlk)
  have hz : ys.getD (0 + Int.toNat (k : Int)) (S.zero .sub) = ys.getD k (S.zero .sub) := by rw [Nat.zero_add, Int.toNat_natCast]
  have hst := set_same hlk
  generalize ys.getD k (S.zero .sub) = z at hlk hgz hz hst
  rw [show k = 0 + Int.toNat (k : Int) by rw [Nat.zero_add, Int.toNat_natCast]] at hst
  obtain ⟨fi, su, ki, pa, re, fs⟩ := z
  obtain ⟨⟨s1, hs1, hs2, _⟩, _, ⟨p1, hp1, hp2, _⟩, ⟨r1, hr1, hr2, _⟩, ⟨f1, hf1, hf2, _⟩⟩ := hgz
  simp only at hs1 hp1 hr1 hf1
  subst hs1; subst hp1; subst hr1; subst hf1
  refine ⟨rfl, by omega, by omega, ?_⟩
  conv => whnf
  refine ⟨rfl, by simp, (by decide : 0 + 1 ≤ 2), ?_⟩
  conv => whnf
  refine ⟨rfl, by omega, by omega, ?_⟩
  conv => whnf
  refine ⟨rfl, by omega, (by decide : 1 + 1 ≤ 6), ?_⟩
  rw [hz]
  conv => whnf
  refine call_of [] (c_cpI_int s1 hs2) (by rfl) (by rfl) ?_
  conv => whnf
  refine ⟨rfl, by omega, (by decide : 1 + 1 ≤ 6), ?_⟩
  rw [hz]
  conv => whnf
  rw [hst]
  refine ⟨rfl, by omega, (by decide : 3 + 1 ≤ 6), ?_⟩
  rw [hz]
  conv => whnf
  refine ⟨rfl, by omega, (by decide : 4 + 1 ≤ 6), ?_⟩
  rw [hz]
  conv => whnf
  refine ⟨rfl, by omega, (by decide : 5 + 1 ≤ 6), ?_⟩
  rw [hz]
  conv => whnf
  refine call_of [] (c_cpI_vt p1 hp2) (by rfl) (by rfl) ?_
  conv => whnf
  refine And.intro (by repeat first | exact trivial | refine And.intro (by first | rfl | exact trivial) ?_) ?_
  conv => whnf
  refine call_of [] (c_cpI_vt r1 hr2) (by rfl) (by rfl) ?_
  conv => whnf
  refine And.intro (by repeat first | exact trivial | refine And.intro (by first | rfl | exact trivial) ?_) ?_
  conv => whnf
  refine call_of [] (c_cpI_fld f1 hf2) (by rfl) (by rfl) ?_
  conv => whnf
  refine And.intro (by repeat first | exact trivial | refine And.intro (by first | rfl | exact trivial) ?_) ?_
  conv => whnf
  refine ⟨rfl, by omega, (by decide : 3 + 1 ≤ 6), ?_⟩
  rw [hz]
  conv => whnf
  rw [hst]
  refine And.intro (by repeat first | exact trivial | refine And.intro (by first | rfl | exact trivial) ?_) ?_
  conv => whnf
  refine ⟨rfl, by omega, (by decide : 4 + 1 ≤ 6), ?_⟩
  rw [hz]
  conv => whnf
  rw [hst]
  refine And.intro (by repeat first | exact trivial | refine And.intro (by first | rfl | exact trivial) ?_) ?_
  conv => whnf
  refine ⟨rfl, by omega, (by decide : 5 + 1 ≤ 6), ?_⟩
  rw [hz]
  conv => whnf
  rw [hst]
  have hw2 : IntKind.i64.wrap ((k : Int) + 1) = ((k + 1 : Nat) : Int) := wrap_i64 (by omega) (by omega)
  refine ⟨[0, 1], [], relo_of [0, 1] (by rfl) (by rfl), ?_⟩
  refine ⟨⟨k + 1, by omega, congrArg (kpW l j j ys.length) hw2, rfl⟩, ?_⟩
  show ys.length - (IntKind.i64.wrap ((k : Int) + 1)).toNat < ys.length - (k : Int).toNat
  rw [hw2]; omega
end Sh
end Go.Proofs.YtlnloekadohddaaDoor
