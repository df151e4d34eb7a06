/- StackDead. -/
import Derived.Test.YtlnloekadohddaaDoorSkI
namespace Go.Proofs.YtlnloekadohddaaDoor
open Go
namespace Sh

set_option maxRecDepth 100000 in
set_option maxHeartbeats 2000000 in
theorem c_dead (l : List El_grp) (ps ls rs a b s : List El_vt) (hl : l.length ≤ 1048576) (hg : ∀ g ∈ l, good_grp 1048576 g) (hp : ps.length ≤ 1048576) (hls : ls.length ≤ 1048576) (hr : rs.length ≤ 1048576)
    (ha : a.length ≤ 1048576) (hb : b.length ≤ 1048576) (hs : s.length ≤ 1048576) :
    SpecD S 3 [.agg [.imm .grp l, .imm .vt ps, .imm .vt ls, .imm .vt rs], .imm .vt a, .imm .vt b, .imm .vt s] [] (.bool true) [] := by
  have hse : (nwSe ps.length (ps ++ ls) (ps ++ ls).length).length ≤ 4000000 := by rw [nwSe_len]; simp; omega
  have kB := c_begin l ps ls rs hl hg hp hls hr
  unfold f0N at kB
  generalize ps ++ ls = lo at kB hse
  generalize nwSe ps.length lo lo.length = se at kB hse
  refine specE ok sh3 rfl ?_
  conv => whnf
  refine call_of [] (kB) (by rfl) (by rfl) ?_
  conv => whnf
  refine call_of [1, 2, 3, 4, 5, 6] (c_Unr_WA 0 2 0 none rs se false (Nat.le_refl 0)) (by rfl) (by rfl) ?_
  conv => whnf
  try (refine And.intro (by repeat first | exact trivial | refine And.intro (by first | rfl | exact trivial) ?_) ?_; conv => whnf)
  refine call_of [1, 2, 3, 4, 5, 6] (c_Height_FA 0) (by rfl) (by rfl) ?_
  conv => whnf
  try (refine And.intro (by repeat first | exact trivial | refine And.intro (by first | rfl | exact trivial) ?_) ?_; conv => whnf)
  refine call_of [1, 2, 3, 4, 5, 6] (c_Reached_FA 0) (by rfl) (by rfl) ?_
  conv => whnf
  try (refine And.intro (by repeat first | exact trivial | refine And.intro (by first | rfl | exact trivial) ?_) ?_; conv => whnf)
  refine call_of [] (c_list s hs) (by rfl) (by rfl) ?_
  conv => whnf
  try (refine And.intro (by repeat first | exact trivial | refine And.intro (by first | rfl | exact trivial) ?_) ?_; conv => whnf)
  refine call_of [1, 2, 3, 4, 5, 6] (c_Pops_FA 2 0 none rs se s hs) (by rfl) (by rfl) ?_
  conv => whnf
  try (refine And.intro (by repeat first | exact trivial | refine And.intro (by first | rfl | exact trivial) ?_) ?_; conv => whnf)
  refine call_of [] (c_list a ha) (by rfl) (by rfl) ?_
  conv => whnf
  try (refine And.intro (by repeat first | exact trivial | refine And.intro (by first | rfl | exact trivial) ?_) ?_; conv => whnf)
  refine call_of [] (c_list b hb) (by rfl) (by rfl) ?_
  conv => whnf
  try (refine And.intro (by repeat first | exact trivial | refine And.intro (by first | rfl | exact trivial) ?_) ?_; conv => whnf)
  rcases Classical.em (a = []) with rfl | hne
  · refine call_of [1, 2, 3, 4, 5, 6] (c_Enter_FA0 2 2 0 none rs se b hb (Nat.zero_le _) (by omega) hse) (by rfl) (by rfl) ?_
    conv => whnf
    try (refine And.intro (by repeat first | exact trivial | refine And.intro (by first | rfl | exact trivial) ?_) ?_; conv => whnf)
    refine call_of [1, 2, 3, 4, 5, 7] (c_Reached_FB 0) (by rfl) (by rfl) ?_
    conv => whnf
    try (refine And.intro (by repeat first | exact trivial | refine And.intro (by first | rfl | exact trivial) ?_) ?_; conv => whnf)
    refine call_of [1, 2, 3, 4, 5, 7] (c_Unr_FB 0 (mkF 2 (0 : Nat) none rs se true) 2 0 (some []) b se false (Nat.zero_le _)) (by rfl) (by rfl) ?_
    conv => whnf
    try (refine And.intro (by repeat first | exact trivial | refine And.intro (by first | rfl | exact trivial) ?_) ?_; conv => whnf)
    refine call_of [1, 2, 3, 4, 5, 7] (c_Leave_FB (mkF 2 (0 : Nat) none rs se true) 2 0 [] b se (by decide : ([] : List El_vt).length ≤ 1048576) hb hse) (by rfl) (by rfl) ?_
    conv => whnf
    try (refine And.intro (by repeat first | exact trivial | refine And.intro (by first | rfl | exact trivial) ?_) ?_; conv => whnf)
    refine call_of [] (c_same [] (Nat.le_trans (by decide : ([] : List El_vt).length ≤ 1048576) (by decide))) (by rfl) (by rfl) ?_
    conv => whnf
    try (refine And.intro (by repeat first | exact trivial | refine And.intro (by first | rfl | exact trivial) ?_) ?_; conv => whnf)
    refine call_of [] (c_same b (by omega)) (by rfl) (by rfl) ?_
    conv => whnf
    try (refine And.intro (by repeat first | exact trivial | refine And.intro (by first | rfl | exact trivial) ?_) ?_; conv => whnf)
    refine call_of [1, 2, 8, 4, 5, 7] (c_Height_FC 0) (by rfl) (by rfl) ?_
    conv => whnf
    try (refine And.intro (by repeat first | exact trivial | refine And.intro (by first | rfl | exact trivial) ?_) ?_; conv => whnf)
    refine call_of [1, 2, 8, 4, 5, 7] (c_Depth_FC 0) (by rfl) (by rfl) ?_
    conv => whnf
    try (refine And.intro (by repeat first | exact trivial | refine And.intro (by first | rfl | exact trivial) ?_) ?_; conv => whnf)
    refine call_of [1, 2, 8, 4, 5, 7] (c_Reached_FC 0) (by rfl) (by rfl) ?_
    conv => whnf
    try (refine And.intro (by repeat first | exact trivial | refine And.intro (by first | rfl | exact trivial) ?_) ?_; conv => whnf)
    exact end_of [] (by rfl) (by rfl) (by rfl) (by exact ⟨rfl, rfl⟩)
  · refine call_of [1, 2, 3, 4, 5, 6] (c_Enter_FA1 2 2 0 none rs se a b ha hb (Nat.zero_le _) (by omega) hse hne) (by rfl) (by rfl) ?_
    conv => whnf
    try (refine And.intro (by repeat first | exact trivial | refine And.intro (by first | rfl | exact trivial) ?_) ?_; conv => whnf)
    refine call_of [1, 2, 3, 4, 8, 7] (c_Reached_WB ([] ++ a : List El_vt).length) (by rfl) (by rfl) ?_
    conv => whnf
    try (refine And.intro (by repeat first | exact trivial | refine And.intro (by first | rfl | exact trivial) ?_) ?_; conv => whnf)
    refine call_of [1, 2, 3, 4, 8, 7] (c_Unr_WB ([] ++ a : List El_vt).length (mkF 2 (0 : Nat) none rs se true) 2 0 (some a) b se false (Nat.zero_le _)) (by rfl) (by rfl) ?_
    conv => whnf
    try (refine And.intro (by repeat first | exact trivial | refine And.intro (by first | rfl | exact trivial) ?_) ?_; conv => whnf)
    refine call_of [1, 2, 3, 4, 8, 7] (c_Leave_FB (mkF 2 (0 : Nat) none rs se true) 2 0 a b se ha hb hse) (by rfl) (by rfl) ?_
    conv => whnf
    try (refine And.intro (by repeat first | exact trivial | refine And.intro (by first | rfl | exact trivial) ?_) ?_; conv => whnf)
    refine call_of [] (c_same a (Nat.le_trans ha (by decide))) (by rfl) (by rfl) ?_
    conv => whnf
    try (refine And.intro (by repeat first | exact trivial | refine And.intro (by first | rfl | exact trivial) ?_) ?_; conv => whnf)
    refine call_of [] (c_same b (by omega)) (by rfl) (by rfl) ?_
    conv => whnf
    try (refine And.intro (by repeat first | exact trivial | refine And.intro (by first | rfl | exact trivial) ?_) ?_; conv => whnf)
    refine call_of [1, 2, 9, 4, 8, 7] (c_Height_FC 0) (by rfl) (by rfl) ?_
    conv => whnf
    try (refine And.intro (by repeat first | exact trivial | refine And.intro (by first | rfl | exact trivial) ?_) ?_; conv => whnf)
    refine call_of [1, 2, 9, 4, 8, 7] (c_Depth_FC 0) (by rfl) (by rfl) ?_
    conv => whnf
    try (refine And.intro (by repeat first | exact trivial | refine And.intro (by first | rfl | exact trivial) ?_) ?_; conv => whnf)
    refine call_of [1, 2, 9, 4, 8, 7] (c_Reached_FC 0) (by rfl) (by rfl) ?_
    conv => whnf
    try (refine And.intro (by repeat first | exact trivial | refine And.intro (by first | rfl | exact trivial) ?_) ?_; conv => whnf)
    exact end_of [] (by rfl) (by rfl) (by rfl) (by exact ⟨rfl, rfl⟩)
end Sh
end Go.Proofs.YtlnloekadohddaaDoor
