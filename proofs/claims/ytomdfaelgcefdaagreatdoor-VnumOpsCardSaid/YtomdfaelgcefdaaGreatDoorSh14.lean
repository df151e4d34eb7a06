/- The shadow machine, part 14: regions, in the text's order and in any order. -/
import Derived.Test.YtomdfaelgcefdaaGreatDoorSh13
namespace Go.Proofs.YtomdfaelgcefdaaGreatDoor
open Go
namespace Sh
variable {K : Type} {El : K → Type}

def sameIs (H H' : Heap K El) : List (Option Nat) → Prop
  | [] => True
  | none :: r => sameIs H H' r
  | some i :: r => H'[i]? = H[i]? ∧ sameIs H H' r

/-- The same object behind it. -/
def sameAt (v : AV K El) (H H' : Heap K El) : Prop := match v with
  | .ptr i _ | .eptr _ i _ _ | .own _ i _ _ _ | .mp i => H'[i]? = H[i]?
  | .clo _ is => sameIs H H' is
  | _ => True

structure GIns (K : Type) (El : K → Type) where
  g : Option (Nat × Bool)
  p : Prim K El
  xs : List (Opd K El)
  d : Option Nat
  av : List Nat

def avOK (av : List Nat) (fr : Nat → AV K El) (H H' : Heap K El) : Prop := match av with
  | [] => True
  | s :: r => sameAt (fr s) H H' ∧ avOK r fr H H'

def GIns.run (S : Seat K El) (i : GIns K El) (st : St K El) (k : St K El → Prop) : Prop :=
  G S i.p (i.xs.map (opdV st.fr)) st.H fun r H' => avOK i.av st.fr st.H H' ∧ k ⟨upd st.fr i.d r, H'⟩

def GIns.skip (i : GIns K El) (st : St K El) (k : St K El → Prop) : Prop := k ⟨upd st.fr i.d (.tup []), st.H⟩

def onB (v : AV K El) (k : Bool → Prop) : Prop := match v with
  | .bool b => k b
  | _ => False

/-- Is a guarded operation done? What was not done before counts as not wanted. -/
def gate (v : AV K El) (want : Bool) : Option Bool := match v with
  | .bool b => some (b == want)
  | .tup [] => some false
  | _ => none

def onO (o : Option Bool) (k : Bool → Prop) : Prop := match o with
  | some b => k b
  | none => False

def GIns.vc (S : Seat K El) (i : GIns K El) (st : St K El) (k : St K El → Prop) : Prop := match i.g with
  | none => i.run S st k
  | some (s, want) => onO (gate (st.fr s) want) fun b => cas b (i.run S st k) (i.skip st k)

def vcL (S : Seat K El) : List (GIns K El) → St K El → (St K El → Prop) → Prop
  | [], st, k => k st
  | i :: l, st, k => i.vc S st fun st' => vcL S l st' k

variable {S : Seat K El}

/-! ### Growing posts -/
theorem rd_mono {H : Heap K El} {a : AV K El} {n : Nat} {k k' : List (AV K El) → Prop} (h : rd S H a n k) (hk : ∀ us, k us → k' us) : rd S H a n k' := by
  unfold rd at *
  split at h <;> first
    | exact h.elim
    | (split at h <;> first | exact h.elim | exact ⟨h.1, hk _ h.2⟩ | exact ⟨h.1, h.2.1, h.2.2.1, hk _ h.2.2.2⟩)
    | exact ⟨h.1, h.2.1, hk _ h.2.2⟩

theorem wr_mono {H : Heap K El} {a : AV K El} {us : List (AV K El)} {k k' : Heap K El → Prop} (h : wr S H a us k) (hk : ∀ us, k us → k' us) : wr S H a us k' := by
  unfold wr at *
  split at h
  · split at h
    · exact ⟨h.1, hk _ h.2⟩
    · exact h.elim
  · split at h
    · refine ⟨h.1, h.2.1, h.2.2.1, ?_⟩
      have h4 := h.2.2.2
      split at h4
      · exact hk _ h4
      · exact h4.elim
    · exact ⟨h.1, h.2.1, h.2.2.1, hk _ h.2.2.2⟩
    · exact h.elim
  · exact h.elim

theorem content_mono {H : Heap K El} {kk : K} {s : AV K El} {k k' : List (El kk) → Prop} (h : content S H kk s k) (hk : ∀ us, k us → k' us) : content S H kk s k' := by
  unfold content at *
  split at h
  · exact hk _ h
  · split at h
    · exact hk _ h
    · exact h.elim
  · split at h
    · refine ⟨h.1, h.2.1, ?_⟩
      have h3 := h.2.2
      split at h3
      · exact hk _ h3
      · exact h3.elim
    · exact h.elim
  · exact h.elim

theorem app_mono {H : Heap K El} {kk : K} {s : AV K El} {ys : List (El kk)} {k k' : AV K El → Heap K El → Prop} (h : app S H kk s ys k) (hk : ∀ r H, k r H → k' r H) : app S H kk s ys k' := by
  unfold app at *
  split at h
  · exact ⟨h.1, hk _ _ h.2⟩
  · split at h
    · split at h
      · refine ⟨h.1, h.2.1, h.2.2.1, ?_⟩
        have h4 := h.2.2.2
        split at h4
        · exact ⟨h4.1, hk _ _ h4.2⟩
        · exact ⟨h4.1, hk _ _ h4.2⟩
        · exact h4.elim
      · exact h.elim
    · exact h.elim
  · exact h.elim

theorem cpy_mono {H : Heap K El} {kk : K} {s : AV K El} {ys : List (El kk)} {k k' : AV K El → Heap K El → Prop} (h : cpy S H kk s ys k) (hk : ∀ r H, k r H → k' r H) : cpy S H kk s ys k' := by
  unfold cpy at *
  split at h
  · split at h
    · split at h
      · exact ⟨h.1, h.2.1, hk _ _ h.2.2⟩
      · exact h.elim
    · exact h.elim
  · exact hk _ _ h
  · exact h.elim

theorem idx_mono {on : Bool} {v : Option (AV K El)} {d : Int} {k k' : Int → Prop} (h : idx on v d k) (hk : ∀ n, k n → k' n) : idx on v d k' := by
  unfold idx at *
  split at h
  · exact hk _ h
  · exact hk _ h
  · exact h.elim

theorem sliceOwn_mono {kk : K} {i lo len : Nat} {c : Cp} {l h : Int} {m : Option Int} {k k' : AV K El → Prop} (hh : sliceOwn kk i lo len c l h m k) (hk : ∀ r, k r → k' r) : sliceOwn kk i lo len c l h m k' := by
  unfold sliceOwn at *
  refine ⟨hh.1, hh.2.1, hh.2.2.1, ?_⟩
  have h4 := hh.2.2.2
  split at h4
  · exact hk _ h4
  · exact ⟨h4.1, hk _ h4.2⟩

theorem slc_mono {kk : K} {lo hi mx : Bool} {x : AV K El} {vs : List (AV K El)} {k k' : AV K El → Prop} (h : slc kk lo hi mx x vs k) (hk : ∀ r, k r → k' r) : slc kk lo hi mx x vs k' := by
  cases x <;> first | exact h.elim | skip
  case own k' i l0 len c =>
    simp only [slc] at h ⊢
    refine idx_mono h fun l h => idx_mono h fun hh h => ⟨h.1, ?_⟩
    have h2 := h.2
    by_cases hm : mx = true
    · rw [if_pos hm] at h2 ⊢
      exact idx_mono h2 fun m h => sliceOwn_mono h hk
    · rw [if_neg hm] at h2 ⊢
      exact sliceOwn_mono h2 hk
  case imm k' xs =>
    simp only [slc] at h ⊢
    exact idx_mono h fun l h => idx_mono h fun hh h => ⟨h.1, h.2.1, h.2.2.1, h.2.2.2.1, h.2.2.2.2.1, hk _ h.2.2.2.2.2⟩
  case nils =>
    simp only [slc] at h ⊢
    exact idx_mono h fun l h => idx_mono h fun hh h => ⟨h.1, h.2.1, h.2.2.1, hk _ h.2.2.2⟩

theorem binI_mono {op : BinOp} {kk : IntKind} {m n : Int} {k k' : AV K El → Prop} (h : binI op kk m n k) (hk : ∀ r, k r → k' r) : binI op kk m n k' := by
  unfold binI at *
  split at h <;> first | exact hk _ h | exact ⟨h.1, hk _ h.2⟩ | exact h.elim

theorem shI_mono {op : BinOp} {kk : IntKind} {m n : Int} {k k' : AV K El → Prop} (h : shI op kk m n k) (hk : ∀ r, k r → k' r) : shI op kk m n k' := by
  unfold shI at *
  split at h <;> first | exact ⟨h.1, hk _ h.2⟩ | exact h.elim

theorem eqK_mono {op : BinOp} {b : Option Bool} {k k' : AV K El → Prop} (h : eqK op b k) (hk : ∀ r, k r → k' r) : eqK op b k' := by
  unfold eqK at *
  split at h <;> first | exact hk _ h | exact h.elim

theorem bin_mono {op : BinOp} {c : TC} {x y : AV K El} {k k' : AV K El → Prop} (h : bin op c x y k) (hk : ∀ r, k r → k' r) : bin op c x y k' := by
  unfold bin at *
  split at h
  · split at h
    · exact shI_mono h hk
    · exact shI_mono h hk
    · exact ⟨h.1, binI_mono h.2 hk⟩
  · split at h
    · exact ⟨h.1, hk _ h.2⟩
    · exact eqK_mono h hk
  · exact eqK_mono h hk
  · exact eqK_mono h hk
  · exact eqK_mono h hk
  · exact ⟨h.1, h.2.1, eqK_mono h.2.2 hk⟩
  · exact h.elim

theorem un_mono {op : UnOp} {x : AV K El} {k k' : AV K El → Prop} (h : un op x k) (hk : ∀ r, k r → k' r) : un op x k' := by
  unfold un at *
  split at h <;> first | exact hk _ h | exact h.elim

theorem callG_mono {f : Nat} {vs : List (AV K El)} {H : Heap K El} {k k' : AV K El → Heap K El → Prop} (h : callG S f vs H k) (hk : ∀ r H, k r H → k' r H) : callG S f vs H k' := by
  obtain ⟨ids, lent, R, h1, h2, h3, h4, h5, h6, h7⟩ := h
  exact ⟨ids, lent, R, h1, h2, h3, h4, h5, h6, fun r H' hR => ⟨(h7 r H' hR).1, hk _ _ (h7 r H' hR).2⟩⟩

theorem G_mono {p : Prim K El} {vs : List (AV K El)} {H : Heap K El} {k k' : AV K El → Heap K El → Prop} (h : G S p vs H k) (hk : ∀ r H, k r H → k' r H) : G S p vs H k' := by
  unfold G at *
  split at h
  · exact hk _ _ h
  · exact hk _ _ h
  · exact hk _ _ h
  · exact ⟨h.1, hk _ _ h.2⟩
  · split at h
    · exact hk _ _ h
    · exact h.elim
  · split at h
    · exact hk _ _ h
    · exact h.elim
  · exact rd_mono h fun us h => hk _ _ h
  · exact ⟨h.1, h.2.1, wr_mono h.2.2 fun us h => hk _ _ h⟩
  · refine ⟨h.1, ?_⟩
    have h2 := h.2
    unfold nilG at *
    split at h2 <;> first | exact hk _ _ h2 | exact h2.elim
  · exact ⟨h.1, h.2.1, bin_mono h.2.2 fun r h => hk _ _ h⟩
  · exact un_mono h fun r h => hk _ _ h
  · exact hk _ _ h
  · exact content_mono h fun us h => ⟨h.1, hk _ _ h.2⟩
  · exact ⟨h.1, slc_mono h.2 fun r h => hk _ _ h⟩
  · exact hk _ _ h
  · split at h
    · rw [cas_iff] at *
      exact ⟨fun hb => hk _ _ (h.1 hb), fun hb => hk _ _ (h.2 hb)⟩
    · exact h.elim
  · exact idx_mono h fun l h => idx_mono h fun hh h => ⟨h.1, h.2.1, h.2.2.1, hk _ _ h.2.2.2⟩
  · refine ⟨h.1, ?_⟩
    have h2 := h.2
    unfold faddrG at *
    split at h2 <;> first | exact hk _ _ h2 | exact h2.elim
  · exact ⟨h.1, hk _ _ h.2⟩
  · refine ⟨h.1, ?_⟩
    have h2 := h.2
    unfold iaddrG at *
    split at h2 <;> first | exact ⟨h2.1, h2.2.1, h2.2.2.1, hk _ _ h2.2.2.2⟩ | exact h2.elim
  · exact ⟨h.1, h.2.1, hk _ _ h.2.2⟩
  · split at h
    · exact hk _ _ h
    · exact h.elim
  · exact callG_mono h hk
  · exact ⟨h.1, callG_mono h.2 hk⟩
  · exact ⟨h.1, h.2.1, callG_mono h.2.2 hk⟩
  · exact content_mono h fun ys h => app_mono h hk
  · exact content_mono h fun ys h => cpy_mono h hk
  · refine ⟨h.1, ?_⟩
    have h2 := h.2
    unfold lenI at *
    split at h2 <;> first | exact hk _ _ h2 | exact h2.elim
  · exact ⟨h.1, h.2.1, h.2.2.1, hk _ _ h.2.2.2⟩
  · split at h
    · exact ⟨h.1, hk _ _ h.2⟩
    · exact h.elim
  · exact ⟨h.1, h.2.1, h.2.2.1, hk _ _ h.2.2.2⟩
  · exact hk _ _ h
  · split at h
    · refine ⟨h.1, ?_⟩
      have h2 := h.2
      split at h2
      · exact hk _ _ h2
      · exact hk _ _ h2
      · exact h2.elim
    · exact h.elim
  · split at h
    · refine ⟨h.1, h.2.1, ?_⟩
      have h2 := h.2.2
      split at h2
      · exact hk _ _ h2
      · exact hk _ _ h2
      · exact h2.elim
    · exact h.elim
  · split at h
    · exact hk _ _ h
    · exact h.elim
  · split at h
    · split at h
      · exact hk _ _ h
      · exact h.elim
    · exact h.elim
  · exact h.elim

theorem GIns.run_mono {i : GIns K El} {st : St K El} {k k' : St K El → Prop} (h : i.run S st k) (hk : ∀ st, k st → k' st) : i.run S st k' :=
  G_mono h fun _ _ h => ⟨h.1, hk _ h.2⟩

theorem GIns.vc_mono {i : GIns K El} {st : St K El} {k k' : St K El → Prop} (h : i.vc S st k) (hk : ∀ st, k st → k' st) : i.vc S st k' := by
  unfold GIns.vc at *
  split at h
  · exact GIns.run_mono h hk
  · unfold onO at *
    split at h
    · rw [cas_iff] at *
      exact ⟨fun hb => GIns.run_mono (h.1 hb) hk, fun hb => hk _ (h.2 hb)⟩
    · exact h.elim

theorem vcL_mono : ∀ {l : List (GIns K El)} {st : St K El} {k k' : St K El → Prop}, vcL S l st k → (∀ st, k st → k' st) → vcL S l st k'
  | [], _, _, _, h, hk => hk _ h
  | _ :: _, _, _, _, h, hk => GIns.vc_mono h fun _ h => vcL_mono h hk

/-! ### What may be done earlier or later -/
/-- Operations that change nothing but their own slot. -/
def Prim.quiet : Prim K El → Bool
  | .mov | .pick | .build _ _ | .load _ _ | .nilck | .bin _ _ | .un _ | .conv _ | .b2s _ | .slice _ _ _ _ | .sslice _ _ | .faddr _ | .field _ _ _ | .iaddr _ | .sindex | .extract _ | .len _ | .mkfn _ | .aindex _ _ _ | .mlook _ _ _ => true
  | _ => false

theorem sameAt_alive {v : AV K El} {H H' : Heap K El} (h : sameAt v H H') (ha : alive H v = true) : alive H' v = true := by
  cases v <;> first | exact ha | (simp only [sameAt] at h; simp only [alive] at ha ⊢; rw [h]; exact ha) | skip
  rename_i f is
  simp only [sameAt] at h
  simp only [alive] at ha ⊢
  induction is with
  | nil => rfl
  | cons o r ih =>
    simp only [List.all_cons, Bool.and_eq_true] at ha ⊢
    cases o with
    | none => exact ⟨rfl, ih h ha.2⟩
    | some i =>
      obtain ⟨h1, h2⟩ := h
      exact ⟨by simp only [h1]; exact ha.1, ih h2 ha.2⟩

theorem rd_quiet {H : Heap K El} {a : AV K El} {n : Nat} {k : List (AV K El) → Prop} (h : rd S H a n k) : ∃ us, k us ∧ ∀ H' (k' : List (AV K El) → Prop), sameAt a H H' → k' us → rd S H' a n k' := by
  unfold rd at h
  split at h
  · split at h
    · rename_i vs hx
      exact ⟨_, h.2, fun H' k' hs hk => by simp only [sameAt] at hs; simp only [rd, hs, hx]; exact ⟨h.1, hk⟩⟩
    · exact h.elim
  · split at h
    · rename_i kr xs hx
      exact ⟨_, h.2.2.2, fun H' k' hs hk => by simp only [sameAt] at hs; simp only [rd, hs, hx]; exact ⟨h.1, h.2.1, h.2.2.1, hk⟩⟩
    · rename_i kr xs e0 vs hx
      exact ⟨_, h.2.2.2, fun H' k' hs hk => by simp only [sameAt] at hs; simp only [rd, hs, hx]; exact ⟨h.1, h.2.1, h.2.2.1, hk⟩⟩
    · exact h.elim
  · exact ⟨_, h.2.2, fun H' k' _ hk => ⟨h.1, h.2.1, hk⟩⟩
  · exact h.elim

theorem idx_quiet {on : Bool} {v : Option (AV K El)} {d : Int} {k : Int → Prop} (h : idx on v d k) : ∃ n, k n ∧ ∀ k' : Int → Prop, k' n → idx on v d k' := by
  unfold idx at h
  split at h
  · exact ⟨_, h, fun k' hk => hk⟩
  · exact ⟨_, h, fun k' hk => hk⟩
  · exact h.elim

theorem sliceOwn_quiet {kk : K} {i lo len : Nat} {c : Cp} {l h : Int} {m : Option Int} {k : AV K El → Prop} (hh : sliceOwn kk i lo len c l h m k) : ∃ r, k r ∧ ∀ k' : AV K El → Prop, k' r → sliceOwn kk i lo len c l h m k' := by
  obtain ⟨h1, h2, h3, h4⟩ := hh
  cases m with
  | none => exact ⟨_, h4, fun k' hk => ⟨h1, h2, h3, hk⟩⟩
  | some m => exact ⟨_, h4.2, fun k' hk => ⟨h1, h2, h3, h4.1, hk⟩⟩

theorem slc_quiet {kk : K} {lo hi mx : Bool} {x : AV K El} {vs : List (AV K El)} {k : AV K El → Prop} (h : slc kk lo hi mx x vs k) : ∃ r, k r ∧ ∀ k' : AV K El → Prop, k' r → slc kk lo hi mx x vs k' := by
  cases x <;> first | exact h.elim | skip
  case own k' i l0 len c =>
    simp only [slc] at h ⊢
    obtain ⟨l, h, hl⟩ := idx_quiet h
    obtain ⟨hh, h, hhi⟩ := idx_quiet h
    obtain ⟨hk, h⟩ := h
    by_cases hm : mx = true
    · simp only [if_pos hm] at h hl hhi ⊢
      obtain ⟨m, h, hmx⟩ := idx_quiet h
      obtain ⟨r, hr, hs⟩ := sliceOwn_quiet h
      exact ⟨r, hr, fun k' hk' => hl _ (hhi _ ⟨hk, hmx _ (hs _ hk')⟩)⟩
    · simp only [if_neg hm] at h hl hhi ⊢
      obtain ⟨r, hr, hs⟩ := sliceOwn_quiet h
      exact ⟨r, hr, fun k' hk' => hl _ (hhi _ ⟨hk, hs _ hk'⟩)⟩
  case imm k' xs =>
    simp only [slc] at h ⊢
    obtain ⟨l, h, hl⟩ := idx_quiet h
    obtain ⟨hh, h, hhi⟩ := idx_quiet h
    exact ⟨_, h.2.2.2.2.2, fun k' hk' => hl _ (hhi _ ⟨h.1, h.2.1, h.2.2.1, h.2.2.2.1, h.2.2.2.2.1, hk'⟩)⟩
  case nils =>
    simp only [slc] at h ⊢
    obtain ⟨l, h, hl⟩ := idx_quiet h
    obtain ⟨hh, h, hhi⟩ := idx_quiet h
    exact ⟨_, h.2.2.2, fun k' hk' => hl _ (hhi _ ⟨h.1, h.2.1, h.2.2.1, hk'⟩)⟩

theorem eqK_quiet {op : BinOp} {b : Option Bool} {k : AV K El → Prop} (h : eqK op b k) : ∃ r, k r ∧ ∀ k' : AV K El → Prop, k' r → eqK op b k' := by
  unfold eqK at h
  split at h
  · exact ⟨_, h, fun k' hk => hk⟩
  · exact ⟨_, h, fun k' hk => hk⟩
  · exact h.elim

theorem binI_quiet {op : BinOp} {kk : IntKind} {m n : Int} {k : AV K El → Prop} (h : binI op kk m n k) : ∃ r, k r ∧ ∀ k' : AV K El → Prop, k' r → binI op kk m n k' := by
  cases op <;> first
    | exact h.elim
    | exact ⟨_, h, fun k' hk => hk⟩
    | exact ⟨_, h.2, fun k' hk => ⟨h.1, hk⟩⟩

theorem shI_quiet {op : BinOp} {kk : IntKind} {m n : Int} {k : AV K El → Prop} (h : shI op kk m n k) : ∃ r, k r ∧ ∀ k' : AV K El → Prop, k' r → shI op kk m n k' := by
  cases op <;> first
    | exact h.elim
    | exact ⟨_, h.2, fun k' hk => ⟨h.1, hk⟩⟩

theorem bin_quiet {op : BinOp} {c : TC} {x y : AV K El} {k : AV K El → Prop} (h : bin op c x y k) : ∃ r, k r ∧ ∀ k' : AV K El → Prop, k' r → bin op c x y k' := by
  unfold bin at h
  split at h
  · split at h
    · obtain ⟨r, h1, h2⟩ := shI_quiet h; exact ⟨r, h1, fun k' hk => h2 k' hk⟩
    · obtain ⟨r, h1, h2⟩ := shI_quiet h; exact ⟨r, h1, fun k' hk => h2 k' hk⟩
    · rename_i hn1 hn2
      obtain ⟨hk0, h⟩ := h
      obtain ⟨r, h1, h2⟩ := binI_quiet h
      refine ⟨r, h1, fun k' hk => ?_⟩
      cases op <;> first | exact ⟨hk0, h2 k' hk⟩ | exact absurd rfl hn1 | exact absurd rfl hn2
  · split at h
    · exact ⟨_, h.2, fun k' hk => ⟨h.1, hk⟩⟩
    · rename_i hn
      obtain ⟨r, h1, h2⟩ := eqK_quiet h
      refine ⟨r, h1, fun k' hk => ?_⟩
      cases op <;> first | exact h2 k' hk | exact absurd rfl hn
  · obtain ⟨r, h1, h2⟩ := eqK_quiet h; exact ⟨r, h1, fun k' hk => h2 k' hk⟩
  · obtain ⟨r, h1, h2⟩ := eqK_quiet h
    refine ⟨r, h1, fun k' hk => ?_⟩
    rename_i x y
    cases x <;> cases y <;> exact h2 k' hk
  · obtain ⟨r, h1, h2⟩ := eqK_quiet h
    refine ⟨r, h1, fun k' hk => ?_⟩
    rename_i x y
    cases x <;> cases y <;> exact h2 k' hk
  · obtain ⟨r, h1, h2⟩ := eqK_quiet h.2.2; exact ⟨r, h1, fun k' hk => ⟨h.1, h.2.1, h2 k' hk⟩⟩
  · exact h.elim

theorem content_quiet {H : Heap K El} {kk : K} {s : AV K El} {kt : List (El kk) → Prop} (h : content S H kk s kt) : ∃ ys, kt ys ∧ ∀ H' (kt' : List (El kk) → Prop), sameAt s H H' → kt' ys → content S H' kk s kt' := by
  unfold content at h
  split at h
  · exact ⟨[], h, fun H' k' _ hk => hk⟩
  · split at h
    · rename_i ys hy
      exact ⟨ys, h, fun H' k' _ hk => by simp only [content, hy]; exact hk⟩
    · exact h.elim
  · split at h
    · rename_i kr xs hx
      have h3 := h.2.2
      split at h3
      · rename_i ys hy
        exact ⟨ys, h3, fun H' k' hs hk => by simp only [sameAt] at hs; simp only [content, hs, hx, hy]; exact ⟨h.1, h.2.1, hk⟩⟩
      · exact h3.elim
    · exact h.elim
  · exact h.elim

theorem G_quiet {p : Prim K El} (hq : p.quiet = true) {vs : List (AV K El)} {H : Heap K El} {k : AV K El → Heap K El → Prop} (h : G S p vs H k) :
    ∃ r, k r H ∧ ∀ H' (k' : AV K El → Heap K El → Prop), (∀ v ∈ vs, sameAt v H H') → k' r H' → G S p vs H' k' := by
  unfold G at h
  split at h <;> first | (simp [Prim.quiet] at hq; done) | skip
  · exact ⟨_, h, fun H' k' _ hk => hk⟩
  · exact ⟨_, h, fun H' k' _ hk => hk⟩
  · split at h
    · rename_i cs hl
      exact ⟨_, h, fun H' k' _ hk => by simp only [G, hl]; exact hk⟩
    · exact h.elim
  · obtain ⟨us, h1, h2⟩ := rd_quiet h
    exact ⟨_, h1, fun H' k' hs hk => by simp only [G]; exact h2 H' _ (hs _ (by simp)) hk⟩
  · obtain ⟨ha, h⟩ := h
    unfold nilG at h
    split at h <;> first | exact h.elim | exact ⟨_, h, fun H' k' hs hk => ⟨sameAt_alive (hs _ (by simp)) ha, hk⟩⟩
  · obtain ⟨r, h1, h2⟩ := bin_quiet h.2.2
    exact ⟨r, h1, fun H' k' hs hk => ⟨sameAt_alive (hs _ (by simp)) h.1, sameAt_alive (hs _ (by simp)) h.2.1, h2 _ hk⟩⟩
  · unfold un at h
    split at h <;> first | exact h.elim | exact ⟨_, h, fun H' k' _ hk => hk⟩
  · exact ⟨_, h, fun H' k' _ hk => hk⟩
  · obtain ⟨ys, h1, h2⟩ := content_quiet h
    exact ⟨_, h1.2, fun H' k' hs hk => by simp only [G]; exact h2 H' _ (hs _ (by simp)) ⟨h1.1, hk⟩⟩
  · obtain ⟨r, h1, h2⟩ := slc_quiet h.2
    exact ⟨r, h1, fun H' k' hs hk => ⟨sameAt_alive (hs _ (by simp)) h.1, h2 _ hk⟩⟩
  · obtain ⟨l, h, hl⟩ := idx_quiet h
    obtain ⟨hh, h, hhi⟩ := idx_quiet h
    exact ⟨_, h.2.2.2, fun H' k' _ hk => by simp only [G]; exact hl _ (hhi _ ⟨h.1, h.2.1, h.2.2.1, hk⟩)⟩
  · obtain ⟨ha, h⟩ := h
    unfold faddrG at h
    split at h <;> first | exact h.elim | exact ⟨_, h, fun H' k' hs hk => ⟨sameAt_alive (hs _ (by simp)) ha, hk⟩⟩
  · exact ⟨_, h.2, fun H' k' _ hk => ⟨h.1, hk⟩⟩
  · obtain ⟨ha, h⟩ := h
    unfold iaddrG at h
    split at h <;> first | exact h.elim | exact ⟨_, h.2.2.2, fun H' k' hs hk => ⟨sameAt_alive (hs _ (by simp)) ha, h.1, h.2.1, h.2.2.1, hk⟩⟩
  · exact ⟨_, h.2.2, fun H' k' _ hk => ⟨h.1, h.2.1, hk⟩⟩
  · split at h
    · rename_i v hv
      exact ⟨_, h, fun H' k' _ hk => by simp only [G, hv]; exact hk⟩
    · exact h.elim
  · obtain ⟨ha, h⟩ := h
    unfold lenI at h
    split at h <;> first | exact h.elim | exact ⟨_, h, fun H' k' hs hk => ⟨sameAt_alive (hs _ (by simp)) ha, hk⟩⟩
  · split at h
    · rename_i is his
      refine ⟨_, h.2, fun H' k' hs hk => ?_⟩
      simp only [G, his]
      refine ⟨?_, hk⟩
      rw [List.all_eq_true]
      exact fun x hx => sameAt_alive (hs x hx) (List.all_eq_true.1 h.1 x hx)
    · exact h.elim
  · exact ⟨_, h.2.2.2, fun H' k' _ hk => ⟨h.1, h.2.1, h.2.2.1, hk⟩⟩
  · split at h
    · rename_i es hi
      obtain ⟨hkd, h⟩ := h
      split at h
      · rename_i hf
        exact ⟨_, h, fun H' k' hs hk => by
          have h1 := hs (.mp _) (List.mem_cons_self ..)
          simp only [sameAt] at h1
          simp only [G, h1, hi, hf]
          exact ⟨hkd, hk⟩⟩
      · rename_i hf
        exact ⟨_, h, fun H' k' hs hk => by
          have h1 := hs (.mp _) (List.mem_cons_self ..)
          simp only [sameAt] at h1
          simp only [G, h1, hi, hf]
          exact ⟨hkd, hk⟩⟩
      · exact h.elim
    · exact h.elim
  · exact h.elim

end Sh
end Go.Proofs.YtomdfaelgcefdaaGreatDoor
