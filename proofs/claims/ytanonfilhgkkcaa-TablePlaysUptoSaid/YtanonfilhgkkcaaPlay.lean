/- One call of a table under a script: both answer the same. -/
import Derived.Test.YtanonfilhgkkcaaCon7
import Derived.Test.YtanonfilhgkkcaaReads
namespace Go.Proofs.Ytanonfilhgkkcaa
open Go
namespace Sh

def fourP (p q : Nat) (X Y : AO KT ElT) (L M : List Val) (T U : TT) (R : Heap KT ElT) : Heap KT ElT :=
  [tab (.own .value p 0 L.length .whole) T, X, tab (.own .value 3 0 M.length .whole) U, .row .value M, rtab (.own .value q 0 L.length .whole) T, Y, rtab (.own .value 7 0 M.length .whole) U, .row .value M] ++ R

def four (L M : List Val) (T U : TT) : Heap KT ElT := fourP 1 5 (.row .value L) (.row .value L) L M T U []

def good (L : List Val) : Prop := allT L = true ∧ L.length ≤ 65536

/-- What a call leaves. -/
def plP (M : List Val) (T U : TT) (r : V) (H : Heap KT ElT) : Prop :=
  r = .bool true ∧ ∃ L, good L ∧ (H = four L M T U ∨ H = fourP 8 9 .gone .gone L M T U [.row .value L, .row .value L] ∨ ∃ Y : List Val, H = fourP 1 8 (.row .value L) (.row .value Y) L M T U [.row .value L])

abbrev Play (L M : List Val) (T U : TT) (o : Opn) : Prop := Spec S 32 [.ptr 0 0, .ptr 2 0, .ptr 4 0, .ptr 6 0, .agg (S.enc .op o)] (four L M T U) (plP M T U)

theorem allT_append (a b : List Val) : allT (a ++ b) = (allT a && allT b) := List.all_append
theorem allT_sub {a b : List Val} (h : allT b = true) (hs : ∀ v ∈ a, v ∈ b) : allT a = true := List.all_eq_true.2 fun v hv => List.all_eq_true.1 h v (hs v hv)
theorem allT_rep (n : Nat) (v : Val) (h : v.type = 5) : allT (List.replicate n v) = true := List.all_eq_true.2 fun x hx => by rw [List.eq_of_mem_replicate hx, h]; rfl

theorem good_set {L : List Val} (h : good L) (i : Nat) (v : Val) : good (setL L i v) := by
  refine ⟨?_, by rw [setL_len]; exact h.2⟩
  unfold setL
  split
  · rename_i hc
    refine List.all_eq_true.2 fun x hx => ?_
    rcases List.mem_or_eq_of_mem_set hx with h1 | h1
    · exact List.all_eq_true.1 h.1 x h1
    · rw [h1, hc.1]; rfl
  · exact h.1

theorem good_fil {L : List Val} (h : good L) (a n : Nat) (v : Val) : good (filL L a n v) := by
  refine ⟨?_, by rw [filL_len]; exact h.2⟩
  unfold filL
  split
  · rename_i hc
    simp only [fillL, allT_append, Bool.and_eq_true]
    exact ⟨⟨allT_sub h.1 fun v hv => List.mem_of_mem_take hv, allT_rep n v hc.1⟩, allT_sub h.1 fun v hv => List.mem_of_mem_drop hv⟩
  · exact h.1

theorem good_ini {L : List Val} (h : good L) (M : List Val) (to a n : Nat) : good (iniL L M to a n) := by
  refine ⟨?_, by rw [iniL_len]; exact h.2⟩
  unfold iniL
  split
  · rename_i hc
    simp only [copyL, allT_append, Bool.and_eq_true]
    exact ⟨⟨allT_sub h.1 fun v hv => List.mem_of_mem_take hv, allT_sub hc.1 fun v hv => List.mem_of_mem_drop (List.mem_of_mem_take hv)⟩, allT_sub h.1 fun v hv => List.mem_of_mem_drop hv⟩
  · exact h.1

theorem allT_layR : ∀ (l : List Val) (r : List Ref), allT l = true → allT (layR l r) = true
  | [], r, _ => rfl
  | v :: l, r, h => by
    simp only [allT, List.all_cons, Bool.and_eq_true] at h
    have h5 := h.1
    simp only [layR]
    rw [if_pos h5]
    have := allT_layR l r.tail h.2
    simp only [allT, List.all_cons, Bool.and_eq_true]
    exact ⟨h5, this⟩

theorem good_lay {L : List Val} (h : good L) (r : List Ref) : good (layR L r) := ⟨allT_layR L r h.1, by rw [layR_len]; exact h.2⟩

theorem good_grow {L : List Val} (h : good L) {T : TT} {n : Nat} {v : Val} {most : Nat} (g : grOK L T n v most) : good (L ++ List.replicate n v) := by
  refine ⟨?_, by simp; exact g.2.2.1⟩
  rw [allT_append, h.1, allT_rep n v g.1]; rfl

variable {L M : List Val} {T U : TT}

set_option maxRecDepth 100000 in
theorem c_play0 (h : good L) (at_ : Nat) (to n most : Int) (v : Val) (l : List Val) (r : List Ref) : Play L M T U ⟨0, at_, to, n, most, v, some l, some r⟩ := by
  have hl : L.length ≤ 1048576 := Nat.le_trans h.2 (by decide)
  refine specE ok sh32 rfl ?_
  conv => whnf
  refine call_of [0, 1] (c_Get L T at_ hl) (by rfl) (by rfl) ?_
  conv => whnf
  generalize hg : getV L at_ = gv
  generalize he : getE L at_ = ge
  have h2 := c_rGet L T at_ hl
  rw [hg, he] at h2
  conv => whnf
  refine call_of [4, 5] (h2) (by rfl) (by rfl) ?_
  conv => whnf
  cases h1 : (gv.type == gv.type && (gv.bits == gv.bits && (gv.ref.kind == gv.ref.kind && (gv.ref.addr == gv.ref.addr && (gv.ref.out == gv.ref.out && true)))))
  · simp at h1
  conv => whnf
  cases h3 : (ge == ge)
  · simp at h3
  conv => whnf
  exact end_of [0, 1, 2, 3, 4, 5, 6, 7] (by rfl) (by rfl) (by rfl) ⟨rfl, L, h, .inl rfl⟩

set_option maxRecDepth 100000 in
theorem c_play1 (h : good L) (at_ : Nat) (to n most : Int) (v : Val) (l : List Val) (r : List Ref) : Play L M T U ⟨1, at_, to, n, most, v, some l, some r⟩ := by
  have hl : L.length ≤ 1048576 := Nat.le_trans h.2 (by decide)
  have k1 := c_Set L T at_ v hl
  have k2 := c_rSet1 L T at_ v hl
  generalize setE L at_ v = e at k1 k2
  refine specE ok sh32 rfl ?_
  conv => whnf
  refine call_of [0, 1] (k1) (by rfl) (by rfl) ?_
  conv => whnf
  refine And.intro (by repeat first | exact trivial | refine And.intro (by first | rfl | exact trivial) ?_) ?_
  conv => whnf
  refine call_of [4, 5] (k2) (by rfl) (by rfl) ?_
  conv => whnf
  cases h3 : (e == e)
  · simp at h3
  conv => whnf
  exact end_of [0, 1, 2, 3, 4, 5, 6, 7] (by rfl) (by rfl) (by rfl) ⟨rfl, _, good_set h at_ v, .inl rfl⟩

set_option maxRecDepth 100000 in
theorem c_play3 (h : good L) (at_ n : Nat) (hn : n ≤ 18446744073709551615) (to most : Int) (v : Val) (l : List Val) (r : List Ref) : Play L M T U ⟨3, at_, to, n, most, v, some l, some r⟩ := by
  have hl : L.length ≤ 1048576 := Nat.le_trans h.2 (by decide)
  have k1 := c_Fill L T at_ n v hl
  have k2 := c_rFill L T at_ n v hl hn
  generalize filE L at_ n v = e at k1 k2
  refine specE ok sh32 rfl ?_
  conv => whnf
  refine call_of [0, 1] (k1) (by rfl) (by rfl) ?_
  conv => whnf
  refine And.intro (by repeat first | exact trivial | refine And.intro (by first | rfl | exact trivial) ?_) ?_
  conv => whnf
  refine call_of [4, 5] (k2) (by rfl) (by rfl) ?_
  conv => whnf
  cases h3 : (e == e)
  · simp at h3
  conv => whnf
  exact end_of [0, 1, 2, 3, 4, 5, 6, 7] (by rfl) (by rfl) (by rfl) ⟨rfl, _, good_fil h at_ n v, .inl rfl⟩

set_option maxRecDepth 100000 in
theorem c_play4 (h : good L) (at_ to n : Nat) (hn : n ≤ 18446744073709551615) (most : Int) (v : Val) (l : List Val) (r : List Ref) : Play L M T U ⟨4, at_, to, n, most, v, some l, some r⟩ := by
  have hl : L.length ≤ 1048576 := Nat.le_trans h.2 (by decide)
  have k1 := c_CopyS L T to at_ n hl
  have k2 := c_rCopyS L T to at_ n hl hn
  generalize iniE L L to at_ n = e at k1 k2
  refine specE ok sh32 rfl ?_
  conv => whnf
  refine call_of [0, 1] (k1) (by rfl) (by rfl) ?_
  conv => whnf
  refine And.intro (by repeat first | exact trivial | refine And.intro (by first | rfl | exact trivial) ?_) ?_
  conv => whnf
  refine call_of [4, 5] (k2) (by rfl) (by rfl) ?_
  conv => whnf
  cases h3 : (e == e)
  · simp at h3
  conv => whnf
  exact end_of [0, 1, 2, 3, 4, 5, 6, 7] (by rfl) (by rfl) (by rfl) ⟨rfl, _, good_ini h L to at_ n, .inl rfl⟩

set_option maxRecDepth 100000 in
theorem c_play5 (h : good L) (hM : M.length ≤ 1048576) (at_ to n : Nat) (hn : n ≤ 18446744073709551615) (most : Int) (v : Val) (l : List Val) (r : List Ref) : Play L M T U ⟨5, at_, to, n, most, v, some l, some r⟩ := by
  have hl : L.length ≤ 1048576 := Nat.le_trans h.2 (by decide)
  have k1 := c_CopyO L M T U to at_ n hl hM
  have k2 := c_rCopyO L M T U to at_ n hl hM hn
  generalize iniE L M to at_ n = e at k1 k2
  refine specE ok sh32 rfl ?_
  conv => whnf
  refine call_of [0, 1, 2, 3] (k1) (by rfl) (by rfl) ?_
  conv => whnf
  refine And.intro (by repeat first | exact trivial | refine And.intro (by first | rfl | exact trivial) ?_) ?_
  conv => whnf
  refine call_of [4, 5, 6, 7] (k2) (by rfl) (by rfl) ?_
  conv => whnf
  cases h3 : (e == e)
  · simp at h3
  conv => whnf
  exact end_of [0, 1, 2, 3, 4, 5, 6, 7] (by rfl) (by rfl) (by rfl) ⟨rfl, _, good_ini h M to at_ n, .inl rfl⟩

set_option maxRecDepth 100000 in
theorem c_play6 (h : good L) (at_ to n : Nat) (hn : n ≤ 18446744073709551615) (most : Int) (v : Val) (l : List Val) (hll : l.length ≤ 1048576) (r : List Ref) : Play L M T U ⟨6, at_, to, n, most, v, some l, some r⟩ := by
  have hl : L.length ≤ 1048576 := Nat.le_trans h.2 (by decide)
  have k2 := c_rInit L l T to at_ n hl hll hn
  have k1 : ∀ E, E = l → _ := fun E hE => c_InitE E L l hE T to at_ n hl hll
  generalize iniE L l to at_ n = e at k1 k2
  refine specE ok sh32 rfl ?_
  conv => whnf
  try (refine And.intro (by repeat first | exact trivial | refine And.intro (by first | rfl | exact trivial) ?_) ?_; conv => whnf)
  refine ⟨rfl, by simp, ⟨by unfold maxLen; simp; omega, by simp [S]; omega⟩, rfl, ?_⟩
  conv => whnf
  refine And.intro (by repeat first | exact trivial | refine And.intro (by first | rfl | exact trivial) ?_) ?_
  conv => whnf
  refine callL_of [0, 1] [10] (k1 _ (by simp)) (by rfl) (by rfl) ?_ ?_ (by exact ⟨rfl, rfl⟩) ?_
  · exact ⟨trivial, trivial, ⟨rfl, by simp⟩, trivial, trivial, trivial⟩
  · exact ⟨⟨trivial, trivial, trivial, trivial, trivial, trivial, trivial, trivial, trivial, trivial, trivial⟩, trivial, trivial⟩
  conv => whnf
  refine And.intro (by repeat first | exact trivial | refine And.intro (by first | rfl | exact trivial) ?_) ?_
  conv => whnf
  refine call_of [4, 5] (k2) (by rfl) (by rfl) ?_
  conv => whnf
  cases h3 : (e == e)
  · simp at h3
  conv => whnf
  exact end_of [0, 1, 2, 3, 4, 5, 6, 7] (by rfl) (by rfl) (by rfl) ⟨rfl, _, good_ini h l to at_ n, .inl rfl⟩

theorem c_rSetE (E : List Val) (F : List Ref) (l : List Val) (r : List Ref) (e : E = l) (f : F = r) (hl : l.length ≤ 1048576) (hr : (refsOf l).length = r.length) : SpecD S 28 [.imm .value E, .imm .ref F] [] (.tup [.own .value 0 0 l.length .whole, .bool true]) [.row .value (layR l r)] := by subst e; subst f; exact c_rSet _ _ hl hr
theorem c_rSet0E (E : List Val) (F : List Ref) (l : List Val) (r : List Ref) (e : E = l) (f : F = r) (hl : l.length ≤ 1048576) (hr : (refsOf l).length ≠ r.length) : SpecD S 28 [.imm .value E, .imm .ref F] [] (.tup [.nils, .bool false]) [] := by subst e; subst f; exact c_rSet0 _ _ hl hr

set_option maxRecDepth 100000 in
theorem c_play7 (h : good L) (w at_ to n most : Int) (hw : w ≠ 0 ∧ w ≠ 1 ∧ w ≠ 2 ∧ w ≠ 3 ∧ w ≠ 4 ∧ w ≠ 5 ∧ w ≠ 6) (v : Val) (l : List Val) (r : List Ref) (hr : r.length ≤ 1048576) : Play L M T U ⟨w, at_, to, n, most, v, some l, some r⟩ := by
  obtain ⟨w0, w1, w2, w3, w4, w5, w6⟩ := hw
  have hl : L.length ≤ 1048576 := Nat.le_trans h.2 (by decide)
  have e0 : (w == 0) = false := by simpa using w0
  have e1 : (w == 1) = false := by simpa using w1
  have e2 : (w == 2) = false := by simpa using w2
  have e3 : (w == 3) = false := by simpa using w3
  have e4 : (w == 4) = false := by simpa using w4
  have e5 : (w == 5) = false := by simpa using w5
  have e6 : (w == 6) = false := by simpa using w6
  refine specE ok sh32 rfl ?_
  conv => whnf
  simp only [e0]
  conv => whnf
  simp only [e1]
  conv => whnf
  simp only [e2]
  conv => whnf
  simp only [e3]
  conv => whnf
  simp only [e4]
  conv => whnf
  simp only [e5]
  conv => whnf
  simp only [e6]
  conv => whnf
  have hR : (laidL L.length r).length ≤ 1048576 := Nat.le_trans (laidL_len L.length r) (by omega)
  have k0 := c_laid L.length r hl hr
  generalize laidL L.length r = R at k0 hR
  refine call_of [] (k0) (by rfl) (by rfl) ?_
  conv => whnf
  by_cases hn : (refsOf L).length = R.length
  · refine callL_of [] [5, 9] (c_rSetE _ _ L R (by simp) (by simp) hl hn) (by rfl) (by rfl) ?_ ?_ (by exact ⟨rfl, rfl⟩) ?_
    · exact ⟨⟨rfl, by simp⟩, ⟨rfl, by simp⟩, trivial⟩
    · trivial
    conv => whnf
    refine ⟨rfl, by simp, ?_⟩
    conv => whnf
    refine ⟨rfl, by simp, ⟨by unfold maxLen; simp; omega, by simp [S]; omega⟩, rfl, ?_⟩
    conv => whnf
    refine callL_of [0, 1] [12] (c_tSetE _ L T R (by simp) hl hn) (by rfl) (by rfl) ?_ ?_ (by exact ⟨rfl, rfl⟩) ?_
    · exact ⟨trivial, ⟨rfl, by simp⟩, trivial⟩
    · exact ⟨⟨trivial, trivial, trivial, trivial, trivial, trivial, trivial, trivial, trivial, trivial, trivial⟩, trivial, trivial⟩
    conv => whnf
    refine end_of [0, 1, 2, 3, 4, 5, 6, 7, 10] (by rfl) (by rfl) (by rfl) ⟨rfl, _, good_lay h R, .inr (.inr ⟨L, ?_⟩)⟩
    unfold fourP
    rw [layR_len]
    rfl
  · refine callL_of [] [5, 9] (c_rSet0E _ _ L R (by simp) (by simp) hl hn) (by rfl) (by rfl) ?_ ?_ (by exact ⟨rfl, rfl⟩) ?_
    · exact ⟨⟨rfl, by simp⟩, ⟨rfl, by simp⟩, trivial⟩
    · trivial
    conv => whnf
    refine ⟨rfl, by simp, ?_⟩
    conv => whnf
    refine ⟨rfl, by simp, ⟨by unfold maxLen; simp; omega, by simp [S]; omega⟩, rfl, ?_⟩
    conv => whnf
    refine callL_of [0, 1] [11] (c_tSet0E _ L T R (by simp) hl hn) (by rfl) (by rfl) ?_ ?_ (by exact ⟨rfl, rfl⟩) ?_
    · exact ⟨trivial, ⟨rfl, by simp⟩, trivial⟩
    · exact ⟨⟨trivial, trivial, trivial, trivial, trivial, trivial, trivial, trivial, trivial, trivial, trivial⟩, trivial, trivial⟩
    conv => whnf
    exact end_of [0, 1, 2, 3, 4, 5, 6, 7] (by rfl) (by rfl) (by rfl) ⟨rfl, _, h, .inl rfl⟩

set_option maxRecDepth 100000 in
theorem c_play2 (h : good L) (at_ to : Int) (n most : Nat) (hn : n ≤ 18446744073709551615) (v : Val) (l : List Val) (r : List Ref) : Play L M T U ⟨2, at_, to, n, most, v, some l, some r⟩ := by
  refine specE ok sh32 rfl ?_
  conv => whnf
  refine callR_of [0, 1] (c_Grow L T n v most h.2) (by rfl) (by rfl) ?_
  rintro _ _ (⟨nok, rfl, rfl⟩ | ⟨gok, rfl, h0, rfl⟩ | ⟨gok, rfl, hp, rfl⟩)
  · conv => whnf
    refine callR_of [4, 5] (c_rGrow L T n v most h.2 hn) (by rfl) (by rfl) ?_
    rintro _ _ (⟨_, rfl, rfl⟩ | ⟨gok, _⟩ | ⟨gok, _⟩)
    · conv => whnf
      exact end_of [0, 1, 2, 3, 4, 5, 6, 7] (by rfl) (by rfl) (by rfl) ⟨rfl, _, h, .inl rfl⟩
    · exact absurd gok nok
    · exact absurd gok nok
  · conv => whnf
    refine callR_of [4, 5] (c_rGrow L T n v most h.2 hn) (by rfl) (by rfl) ?_
    rintro _ _ (⟨nok, _⟩ | ⟨_, rfl, _, rfl⟩ | ⟨_, _, hp, _⟩)
    · exact absurd gok nok
    · conv => whnf
      cases h3 : ((L.length : Int) == (L.length : Int))
      · simp at h3
      conv => whnf
      exact end_of [0, 1, 2, 3, 4, 5, 6, 7] (by rfl) (by rfl) (by rfl) ⟨rfl, _, h, .inl rfl⟩
    · omega
  · conv => whnf
    refine callR_of [4, 5] (c_rGrow L T n v most h.2 hn) (by rfl) (by rfl) ?_
    rintro _ _ (⟨nok, _⟩ | ⟨_, _, h0, _⟩ | ⟨_, rfl, _, rfl⟩)
    · exact absurd gok nok
    · omega
    · conv => whnf
      cases h3 : ((L.length : Int) == (L.length : Int))
      · simp at h3
      conv => whnf
      refine end_of [0, 1, 2, 3, 4, 5, 6, 7, 9, 10] (by rfl) (by rfl) (by rfl) ⟨rfl, _, good_grow h gok, .inr (.inl ?_)⟩
      unfold fourP
      rw [List.length_append, List.length_replicate]
      rfl

theorem wf_nat {n : Int} (h : wf .u64 n) : ∃ m : Nat, n = m ∧ m ≤ 18446744073709551615 := by
  obtain ⟨h1, h2⟩ := lit_wf_int h
  have h1' : (0 : Int) ≤ n := h1
  have h2' : n ≤ 18446744073709551615 := h2
  exact ⟨n.toNat, by omega, by omega⟩

theorem c_play (h : good L) (hM : M.length ≤ 1048576) (o : Opn) (ho : goodO 1048576 o) : Play L M T U o := by
  obtain ⟨w, at_, to, n, most, v, ol, or⟩ := o
  obtain ⟨_, ha, ht, hn, hm, _, ⟨l, hl, hll, _⟩, ⟨r, hr, hrl, _⟩⟩ := ho
  simp only at ha ht hn hm hl hr
  subst hl; subst hr
  obtain ⟨a, rfl, ka⟩ := wf_nat ha
  obtain ⟨t, rfl, kt⟩ := wf_nat ht
  obtain ⟨k, rfl, kn⟩ := wf_nat hn
  obtain ⟨m, rfl, km⟩ := wf_nat hm
  by_cases w0 : w = 0
  · subst w0; exact c_play0 h a t k m v l r
  by_cases w1 : w = 1
  · subst w1; exact c_play1 h a t k m v l r
  by_cases w2 : w = 2
  · subst w2; exact c_play2 h a t k m kn v l r
  by_cases w3 : w = 3
  · subst w3; exact c_play3 h a k kn t m v l r
  by_cases w4 : w = 4
  · subst w4; exact c_play4 h a t k kn m v l r
  by_cases w5 : w = 5
  · subst w5; exact c_play5 h hM a t k kn m v l r
  by_cases w6 : w = 6
  · subst w6; exact c_play6 h a t k kn m v l hll r
  exact c_play7 h w a t k m ⟨w0, w1, w2, w3, w4, w5, w6⟩ v l r hrl
end Sh
end Go.Proofs.Ytanonfilhgkkcaa
