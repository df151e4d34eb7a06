/- TablePlays: what the law's function answers. -/
import Derived.Test.YtanonfilhgkkcaaPlay
namespace Go.Proofs.Ytanonfilhgkkcaa
open Go
namespace Sh

def smT : TT := ⟨5, true, -1, false, 3, 0, false⟩
def oneV : Val := ⟨5, 0, ⟨1, 9, false⟩⟩
def ppV (s : List Opn) (j : Int) : List V := [.imm .op s, .ptr 0 0, .ptr 4 0, .ptr 2 0, .ptr 6 0, .int .i64 j]

theorem sm_ok : nwOK smT oneV := ⟨rfl, by decide, fun h => by cases h⟩

set_option maxRecDepth 100000 in
theorem c_plays (T : TT) (v : Val) (s : List Opn) (he : wf .u64 T.e) (hs : s.length ≤ 1048576) (ho : ∀ o ∈ s, goodO 1048576 o) : SpecD S 5 [T.agg, .agg (encVal v), .imm .op s] [] (.bool true) [] := by
  obtain ⟨n, hn, _⟩ := wf_nat he
  by_cases gok : nwOK T v
  rotate_left
  · have k1 := c_New_no T v gok
    have k2 := c_rNew_no T v gok
    refine specE ok sh5 rfl ?_
    conv => whnf
    refine call_of [] (k1) (by rfl) (by rfl) ?_
    conv => whnf
    refine call_of [] (k2) (by rfl) (by rfl) ?_
    conv => whnf
    refine call_of [] (c_awake) (by rfl) (by rfl) ?_
    conv => whnf
    exact end_of [] (by rfl) (by rfl) (by rfl) (by exact ⟨rfl, rfl⟩)
  have k1 := c_New T v n hn gok
  have k2 := c_rNewLoop T v n hn gok
  have g0 : good (List.replicate n v) := ⟨allT_rep n v gok.1, by rw [List.length_replicate]; have := gok.2.1; omega⟩
  refine specE ok sh5 rfl ?_
  conv => whnf
  refine call_of [] (k1) (by rfl) (by rfl) ?_
  conv => whnf
  refine call_of [] (k2) (by rfl) (by rfl) ?_
  conv => whnf
  refine call_of [] (c_New smT oneV 3 rfl sm_ok) (by rfl) (by rfl) ?_
  conv => whnf
  refine call_of [] (c_rNewLoop smT oneV 3 rfl sm_ok) (by rfl) (by rfl) ?_
  conv => whnf
  refine loop_of [] [2, 3, 8, 9, 4, 5, 10, 11] (fun vs H => ∃ (j : Nat) (L : List Val), j ≤ s.length ∧ good L ∧ vs = ppV s j ∧ H = four L (List.replicate 3 oneV) T smT)
    (fun vs _ => match vs with | [_, _, _, _, _, .int _ j] => s.length - j.toNat | _ => 0) (by rfl) (by rfl) (by rfl) (by rfl) ⟨0, _, Nat.zero_le _, g0, rfl, ?_⟩ ?_
  · unfold four fourP
    rw [List.length_replicate]
    rfl
  rintro vs H1 ⟨j, L, hj, hL, rfl, rfl⟩
  have hl : L.length ≤ 1048576 := Nat.le_trans hL.2 (by decide)
  conv => whnf
  cases hd : decide ((j : Int) < s.length)
  · conv => whnf
    refine call_of [0, 1, 4, 5] (c_told L T hl) (by rfl) (by rfl) ?_
    conv => whnf
    refine call_of [] (c_awake) (by rfl) (by rfl) ?_
    conv => whnf
    exact end_of [] (by rfl) (by rfl) (by rfl) (by exact ⟨rfl, rfl⟩)
  conv => whnf
  have hlt := of_decide_eq_true hd
  have hj' : j < s.length := by omega
  have hw : IntKind.i64.wrap ((j : Int) + 1) = ((j + 1 : Nat) : Int) := wrap_i64 (by omega) (by omega)
  have hm : s.length - (IntKind.i64.wrap ((j : Int) + 1)).toNat < s.length - (j : Int).toNat := by rw [hw]; omega
  refine call_of [0, 1, 4, 5] (c_told L T hl) (by rfl) (by rfl) ?_
  conv => whnf
  refine ⟨rfl, by omega, by omega, ?_⟩
  conv => whnf
  refine ⟨by simpa using hj', by decide, ?_⟩
  have hg : s.getD (Int.toNat (j : Int)) (S.zero .op) = s[j] := by simp [hj']
  have hO := ho s[j] (List.getElem_mem hj')
  rw [hg]
  generalize s[j] = o at hO
  have kp := c_play (T := T) (U := smT) (M := List.replicate 3 oneV) hL (by decide) o hO
  obtain ⟨w, at_, to, k, most, u, ol, or⟩ := o
  obtain ⟨_, _, _, _, _, _, ⟨l, hl1, _⟩, ⟨r, hr1, _⟩⟩ := hO
  simp only at hl1 hr1
  subst hl1; subst hr1
  conv => whnf
  refine callR_of [0, 1, 2, 3, 4, 5, 6, 7] kp (by rfl) (by rfl) ?_
  rintro _ _ ⟨rfl, L', hL', rfl | rfl | ⟨X, rfl⟩⟩
  · conv => whnf
    refine ⟨[0, 1, 2, 3, 4, 5, 6, 7], [], relo_of [0, 1, 2, 3, 4, 5, 6, 7] (by rfl) (by rfl), ⟨j + 1, L', by omega, hL', congrArg (ppV s) hw, rfl⟩, hm⟩
  · conv => whnf
    refine ⟨[0, 8, 2, 3, 4, 9, 6, 7], [], relo_of [0, 8, 2, 3, 4, 9, 6, 7] (by rfl) (by rfl), ⟨j + 1, L', by omega, hL', congrArg (ppV s) hw, rfl⟩, hm⟩
  · conv => whnf
    refine ⟨[0, 1, 2, 3, 4, 8, 6, 7], [], relo_of [0, 1, 2, 3, 4, 8, 6, 7] (by rfl) (by rfl), ⟨j + 1, L', by omega, hL', congrArg (ppV s) hw, rfl⟩, hm⟩
end Sh
end Go.Proofs.Ytanonfilhgkkcaa
