/- Sh14 Sh15 Sh16 Sh17. -/
import Derived.Test.YtomdfaelgcefdaaGreatDoorGae
set_option maxRecDepth 100000
set_option maxHeartbeats 64000000
namespace Go.Proofs.YtomdfaelgcefdaaGreatDoor
open Go
namespace Sh
variable {K : Type} {El : K → Type}
def sameIs (H H' : Heap K El) : List (Option Nat) → Prop
 | [] => True
 | none :: r => sameIs H H' r
 | some i :: r => H'[i]? = H[i]? ∧ sameIs H H' r
def sameAt (v : AV K El) (H H' : Heap K El) : Prop := match v with
 | .ptr i _ | .eptr _ i _ _ | .own _ i _ _ _ | .mp i => H'[i]? = H[i]?
 | .clo _ is => sameIs H H' is
 | _ => True
structure GIns (K : Type) (El : K → Type) where
 g : Option (Nat × Bool)
 p : Prim K El
 xs : List (Opd K El)
 d : Option Nat
 av : List Nat
def avOK (av : List Nat) (fr : Nat → AV K El) (H H' : Heap K El) : Prop := match av with
 | [] => True
 | s :: r => sameAt (fr s) H H' ∧ avOK r fr H H'
def GIns.run (S : Seat K El) (i : GIns K El) (st : St K El) (k : St K El → Prop) : Prop :=
 G S i.p (i.xs.map (opdV st.fr)) st.H fun r H' => avOK i.av st.fr st.H H' ∧ k ⟨upd st.fr i.d r,H'⟩
def GIns.skip (i : GIns K El) (st : St K El) (k : St K El → Prop) : Prop := k ⟨upd st.fr i.d (.tup []),st.H⟩
def onB (v : AV K El) (k : Bool → Prop) : Prop := match v with
 | .bool b => k b
 | _ => False
def gate (v : AV K El) (want : Bool) : Option Bool := match v with
 | .bool b => some (b == want)
 | .tup [] => some false
 | _ => none
def onO (o : Option Bool) (k : Bool → Prop) : Prop := match o with
 | some b => k b
 | none => False
def GIns.vc (S : Seat K El) (i : GIns K El) (st : St K El) (k : St K El → Prop) : Prop := match i.g with
 | none => i.run S st k
 | some (s,want) => onO (gate (st.fr s) want) fun b => cas b (i.run S st k) (i.skip st k)
def vcL (S : Seat K El) : List (GIns K El) → St K El → (St K El → Prop) → Prop
 | [],st,k => k st
 | i :: l,st,k => i.vc S st fun st' => vcL S l st' k
variable {S : Seat K El}
theorem rd_mono {H : Heap K El} {a : AV K El} {n : Nat} {k k' : List (AV K El) → Prop} (h : rd S H a n k) (hk : ∀ us,k us → k' us) : rd S H a n k' := by
 unfold rd at *
 split at h <;> first
  | exact h.elim
  | (split at h <;> first | exact h.elim | exact ⟨h.1,hk _ h.2⟩ | exact ⟨h.1,h.2.1,h.2.2.1,hk _ h.2.2.2⟩)
  | exact ⟨h.1,h.2.1,hk _ h.2.2⟩
theorem wr_mono {H : Heap K El} {a : AV K El} {us : List (AV K El)} {k k' : Heap K El → Prop} (h : wr S H a us k) (hk : ∀ us,k us → k' us) : wr S H a us k' := by
 unfold wr at *;split at h
 · split at h
   · exact ⟨h.1,hk _ h.2⟩
   · exact h.elim
 · split at h
   · refine ⟨h.1,h.2.1,h.2.2.1,?_⟩;have h4 := h.2.2.2;split at h4
     · exact hk _ h4
     · exact h4.elim
   · exact ⟨h.1,h.2.1,h.2.2.1,hk _ h.2.2.2⟩
   · exact h.elim
 · exact h.elim
theorem content_mono {H : Heap K El} {kk : K} {s : AV K El} {k k' : List (El kk) → Prop} (h : content S H kk s k) (hk : ∀ us,k us → k' us) : content S H kk s k' := by
 unfold content at *;split at h
 · exact hk _ h
 · split at h
   · exact hk _ h
   · exact h.elim
 · split at h
   · refine ⟨h.1,h.2.1,?_⟩;have h3 := h.2.2;split at h3
     · exact hk _ h3
     · exact h3.elim
   · refine ⟨h.1,h.2.1,?_⟩;have h3 := h.2.2;split at h3
     · exact hk _ h3
     · exact h3.elim
   · exact h.elim
 · exact h.elim
theorem app_mono {H : Heap K El} {kk : K} {s : AV K El} {ys : List (El kk)} {k k' : AV K El → Heap K El → Prop} (h : app S H kk s ys k) (hk : ∀ r H,k r H → k' r H) : app S H kk s ys k' := by
 unfold app at *;split at h
 · exact ⟨h.1,hk _ _ h.2⟩
 · split at h
   · split at h
     · refine ⟨h.1,h.2.1,h.2.2.1,?_⟩;have h4 := h.2.2.2;split at h4
       · exact ⟨h4.1,hk _ _ h4.2⟩
       · exact ⟨h4.1,hk _ _ h4.2⟩
       · exact h4.elim
     · exact h.elim
   · exact h.elim
 · exact h.elim
theorem cpy_mono {H : Heap K El} {kk : K} {s : AV K El} {ys : List (El kk)} {k k' : AV K El → Heap K El → Prop} (h : cpy S H kk s ys k) (hk : ∀ r H,k r H → k' r H) : cpy S H kk s ys k' := by
 unfold cpy at *;split at h
 · split at h
   · split at h
     · exact ⟨h.1,h.2.1,hk _ _ h.2.2⟩
     · exact h.elim
   · exact h.elim
 · exact hk _ _ h
 · exact h.elim
theorem idx_mono {on : Bool} {v : Option (AV K El)} {d : Int} {k k' : Int → Prop} (h : idx on v d k) (hk : ∀ n,k n → k' n) : idx on v d k' := by
 unfold idx at *;split at h
 · exact hk _ h
 · exact hk _ h
 · exact h.elim
theorem sliceOwn_mono {kk : K} {i lo len : Nat} {c : Cp} {l h : Int} {m : Option Int} {k k' : AV K El → Prop} (hh : sliceOwn kk i lo len c l h m k) (hk : ∀ r,k r → k' r) : sliceOwn kk i lo len c l h m k' := by
 unfold sliceOwn at *;refine ⟨hh.1,hh.2.1,hh.2.2.1,?_⟩;have h4 := hh.2.2.2;split at h4
 · exact hk _ h4
 · exact ⟨h4.1,hk _ h4.2⟩
theorem slc_mono {kk : K} {lo hi mx : Bool} {x : AV K El} {vs : List (AV K El)} {k k' : AV K El → Prop} (h : slc kk lo hi mx x vs k) (hk : ∀ r,k r → k' r) : slc kk lo hi mx x vs k' := by
 cases x <;> first | exact h.elim | skip
 case own k' i l0 len c =>
  simp only [slc] at h ⊢;refine idx_mono h fun l h => idx_mono h fun hh h => ⟨h.1,?_⟩;have h2 := h.2
  by_cases hm : mx = true
  · rw [if_pos hm] at h2 ⊢;exact idx_mono h2 fun m h => sliceOwn_mono h hk
  · rw [if_neg hm] at h2 ⊢;exact sliceOwn_mono h2 hk
 case imm k' xs =>
  simp only [slc] at h ⊢;exact idx_mono h fun l h => idx_mono h fun hh h => ⟨h.1,h.2.1,h.2.2.1,h.2.2.2.1,h.2.2.2.2.1,hk _ h.2.2.2.2.2⟩
 case nils =>
  simp only [slc] at h ⊢;exact idx_mono h fun l h => idx_mono h fun hh h => ⟨h.1,h.2.1,h.2.2.1,hk _ h.2.2.2⟩
theorem binI_mono {op : BinOp} {kk : IntKind} {m n : Int} {k k' : AV K El → Prop} (h : binI op kk m n k) (hk : ∀ r,k r → k' r) : binI op kk m n k' := by
 unfold binI at *
 split at h <;> first | exact hk _ h | exact ⟨h.1,hk _ h.2⟩ | exact h.elim
theorem shI_mono {op : BinOp} {kk : IntKind} {m n : Int} {k k' : AV K El → Prop} (h : shI op kk m n k) (hk : ∀ r,k r → k' r) : shI op kk m n k' := by
 unfold shI at *
 split at h <;> first | exact ⟨h.1,hk _ h.2⟩ | exact h.elim
theorem eqK_mono {op : BinOp} {b : Option Bool} {k k' : AV K El → Prop} (h : eqK op b k) (hk : ∀ r,k r → k' r) : eqK op b k' := by
 unfold eqK at *
 split at h <;> first | exact hk _ h | exact h.elim
theorem bin_mono {op : BinOp} {c : TC} {x y : AV K El} {k k' : AV K El → Prop} (h : bin op c x y k) (hk : ∀ r,k r → k' r) : bin op c x y k' := by
 unfold bin at *;split at h
 · split at h
   · exact shI_mono h hk
   · exact shI_mono h hk
   · exact ⟨h.1,binI_mono h.2 hk⟩
 · split at h
   · exact ⟨h.1,hk _ h.2⟩
   · exact eqK_mono h hk
 · exact eqK_mono h hk
 · exact eqK_mono h hk
 · exact eqK_mono h hk
 · exact ⟨h.1,h.2.1,eqK_mono h.2.2 hk⟩
 · exact h.elim
theorem un_mono {op : UnOp} {x : AV K El} {k k' : AV K El → Prop} (h : un op x k) (hk : ∀ r,k r → k' r) : un op x k' := by
 unfold un at *
 split at h <;> first | exact hk _ h | exact h.elim
theorem callG_mono {f : Nat} {vs : List (AV K El)} {H : Heap K El} {k k' : AV K El → Heap K El → Prop} (h : callG S f vs H k) (hk : ∀ r H,k r H → k' r H) : callG S f vs H k' := by
 obtain ⟨ids,lent,R,h1,h2,h3,h4,h5,h6,h7⟩ := h;exact ⟨ids,lent,R,h1,h2,h3,h4,h5,h6,fun r H' hR => ⟨(h7 r H' hR).1,hk _ _ (h7 r H' hR).2⟩⟩
theorem G_mono {p : Prim K El} {vs : List (AV K El)} {H : Heap K El} {k k' : AV K El → Heap K El → Prop} (h : G S p vs H k) (hk : ∀ r H,k r H → k' r H) : G S p vs H k' := by
 unfold G at *;split at h
 · exact hk _ _ h
 · exact hk _ _ h
 · exact hk _ _ h
 · exact ⟨h.1,hk _ _ h.2⟩
 · split at h
   · exact hk _ _ h
   · exact h.elim
 · split at h
   · exact hk _ _ h
   · exact h.elim
 · exact rd_mono h fun us h => hk _ _ h
 · exact ⟨h.1,h.2.1,wr_mono h.2.2 fun us h => hk _ _ h⟩
 · refine ⟨h.1,?_⟩;have h2 := h.2;unfold nilG at *
   split at h2 <;> first | exact hk _ _ h2 | exact h2.elim
 · exact ⟨h.1,h.2.1,bin_mono h.2.2 fun r h => hk _ _ h⟩
 · exact un_mono h fun r h => hk _ _ h
 · exact hk _ _ h
 · exact content_mono h fun us h => ⟨h.1,hk _ _ h.2⟩
 · exact ⟨h.1,slc_mono h.2 fun r h => hk _ _ h⟩
 · exact hk _ _ h
 · split at h
   · rw [cas_iff] at *;exact ⟨fun hb => hk _ _ (h.1 hb),fun hb => hk _ _ (h.2 hb)⟩
   · exact h.elim
 · exact idx_mono h fun l h => idx_mono h fun hh h => ⟨h.1,h.2.1,h.2.2.1,hk _ _ h.2.2.2⟩
 · refine ⟨h.1,?_⟩;have h2 := h.2;unfold faddrG at *
   split at h2 <;> first | exact hk _ _ h2 | exact h2.elim
 · exact ⟨h.1,hk _ _ h.2⟩
 · refine ⟨h.1,?_⟩;have h2 := h.2;unfold iaddrG at *
   split at h2 <;> first | exact ⟨h2.1,h2.2.1,h2.2.2.1,hk _ _ h2.2.2.2⟩ | exact h2.elim
 · exact ⟨h.1,h.2.1,hk _ _ h.2.2⟩
 · split at h
   · exact hk _ _ h
   · exact h.elim
 · exact callG_mono h hk
 · exact ⟨h.1,callG_mono h.2 hk⟩
 · exact ⟨h.1,h.2.1,callG_mono h.2.2 hk⟩
 · exact content_mono h fun ys h => app_mono h hk
 · exact content_mono h fun ys h => cpy_mono h hk
 · refine ⟨h.1,?_⟩;have h2 := h.2;unfold lenI at *
   split at h2 <;> first | exact hk _ _ h2 | exact h2.elim
 · exact ⟨h.1,h.2.1,h.2.2.1,hk _ _ h.2.2.2⟩
 · exact hk _ _ h
 · split at h
   · exact ⟨h.1,h.2.1,h.2.2.1,h.2.2.2.1,h.2.2.2.2.1,hk _ _ h.2.2.2.2.2⟩
   · exact h.elim
 · split at h
   · exact app_mono h hk
   · exact h.elim
 · split at h
   · exact ⟨h.1,hk _ _ h.2⟩
   · exact h.elim
 · exact ⟨h.1,h.2.1,h.2.2.1,hk _ _ h.2.2.2⟩
 · exact hk _ _ h
 · split at h
   · refine ⟨h.1,?_⟩;have h2 := h.2;split at h2
     · exact hk _ _ h2
     · exact hk _ _ h2
     · exact h2.elim
   · exact h.elim
 · split at h
   · refine ⟨h.1,h.2.1,?_⟩;have h2 := h.2.2;split at h2
     · exact hk _ _ h2
     · exact hk _ _ h2
     · exact h2.elim
   · exact h.elim
 · split at h
   · exact hk _ _ h
   · exact h.elim
 · split at h
   · split at h
     · exact hk _ _ h
     · exact h.elim
   · exact h.elim
 · exact h.elim
theorem GIns.run_mono {i : GIns K El} {st : St K El} {k k' : St K El → Prop} (h : i.run S st k) (hk : ∀ st,k st → k' st) : i.run S st k' :=
 G_mono h fun _ _ h => ⟨h.1,hk _ h.2⟩
theorem GIns.vc_mono {i : GIns K El} {st : St K El} {k k' : St K El → Prop} (h : i.vc S st k) (hk : ∀ st,k st → k' st) : i.vc S st k' := by
 unfold GIns.vc at *;split at h
 · exact GIns.run_mono h hk
 · unfold onO at *;split at h
   · rw [cas_iff] at *;exact ⟨fun hb => GIns.run_mono (h.1 hb) hk,fun hb => hk _ (h.2 hb)⟩
   · exact h.elim
theorem vcL_mono : ∀ {l : List (GIns K El)} {st : St K El} {k k' : St K El → Prop},vcL S l st k → (∀ st,k st → k' st) → vcL S l st k'
 | [],_,_,_,h,hk => hk _ h
 | _ :: _,_,_,_,h,hk => GIns.vc_mono h fun _ h => vcL_mono h hk
def Prim.quiet : Prim K El → Bool
 | .mov | .pick | .build _ _ | .load _ _ | .nilck | .bin _ _ | .un _ | .conv _ | .b2s _ | .slice _ _ _ _ | .sslice _ _ | .faddr _ | .field _ _ _ | .iaddr _ | .sindex | .extract _ | .len _ | .mkfn _ | .aindex _ _ _ | .mlook _ _ _ => true
 | _ => false
theorem sameAt_alive {v : AV K El} {H H' : Heap K El} (h : sameAt v H H') (ha : alive H v = true) : alive H' v = true := by
 cases v <;> first | exact ha | (simp only [sameAt] at h; simp only [alive] at ha ⊢; rw [h]; exact ha) | skip
 rename_i f is;simp only [sameAt] at h;simp only [alive] at ha ⊢
 induction is with
 | nil => rfl
 | cons o r ih =>
  simp only [List.all_cons,Bool.and_eq_true] at ha ⊢
  cases o with
  | none => exact ⟨rfl,ih h ha.2⟩
  | some i =>
   obtain ⟨h1,h2⟩ := h;exact ⟨by simp only [h1]; exact ha.1,ih h2 ha.2⟩
theorem rd_quiet {H : Heap K El} {a : AV K El} {n : Nat} {k : List (AV K El) → Prop} (h : rd S H a n k) : ∃ us,k us ∧ ∀ H' (k' : List (AV K El) → Prop),sameAt a H H' → k' us → rd S H' a n k' := by
 unfold rd at h;split at h
 · split at h
   · rename_i vs hx;exact ⟨_,h.2,fun H' k' hs hk => by simp only [sameAt] at hs; simp only [rd,hs,hx]; exact ⟨h.1,hk⟩⟩
   · exact h.elim
 · split at h
   · rename_i kr xs hx;exact ⟨_,h.2.2.2,fun H' k' hs hk => by simp only [sameAt] at hs; simp only [rd,hs,hx]; exact ⟨h.1,h.2.1,h.2.2.1,hk⟩⟩
   · rename_i kr xs e0 vs hx;exact ⟨_,h.2.2.2,fun H' k' hs hk => by simp only [sameAt] at hs; simp only [rd,hs,hx]; exact ⟨h.1,h.2.1,h.2.2.1,hk⟩⟩
   · exact h.elim
 · exact ⟨_,h.2.2,fun H' k' _ hk => ⟨h.1,h.2.1,hk⟩⟩
 · exact h.elim
theorem idx_quiet {on : Bool} {v : Option (AV K El)} {d : Int} {k : Int → Prop} (h : idx on v d k) : ∃ n,k n ∧ ∀ k' : Int → Prop,k' n → idx on v d k' := by
 unfold idx at h;split at h
 · exact ⟨_,h,fun k' hk => hk⟩
 · exact ⟨_,h,fun k' hk => hk⟩
 · exact h.elim
theorem sliceOwn_quiet {kk : K} {i lo len : Nat} {c : Cp} {l h : Int} {m : Option Int} {k : AV K El → Prop} (hh : sliceOwn kk i lo len c l h m k) : ∃ r,k r ∧ ∀ k' : AV K El → Prop,k' r → sliceOwn kk i lo len c l h m k' := by
 obtain ⟨h1,h2,h3,h4⟩ := hh
 cases m with
 | none => exact ⟨_,h4,fun k' hk => ⟨h1,h2,h3,hk⟩⟩
 | some m => exact ⟨_,h4.2,fun k' hk => ⟨h1,h2,h3,h4.1,hk⟩⟩
theorem slc_quiet {kk : K} {lo hi mx : Bool} {x : AV K El} {vs : List (AV K El)} {k : AV K El → Prop} (h : slc kk lo hi mx x vs k) : ∃ r,k r ∧ ∀ k' : AV K El → Prop,k' r → slc kk lo hi mx x vs k' := by
 cases x <;> first | exact h.elim | skip
 case own k' i l0 len c =>
  simp only [slc] at h ⊢;obtain ⟨l,h,hl⟩ := idx_quiet h;obtain ⟨hh,h,hhi⟩ := idx_quiet h;obtain ⟨hk,h⟩ := h
  by_cases hm : mx = true
  · simp only [if_pos hm] at h hl hhi ⊢;obtain ⟨m,h,hmx⟩ := idx_quiet h;obtain ⟨r,hr,hs⟩ := sliceOwn_quiet h;exact ⟨r,hr,fun k' hk' => hl _ (hhi _ ⟨hk,hmx _ (hs _ hk')⟩)⟩
  · simp only [if_neg hm] at h hl hhi ⊢;obtain ⟨r,hr,hs⟩ := sliceOwn_quiet h;exact ⟨r,hr,fun k' hk' => hl _ (hhi _ ⟨hk,hs _ hk'⟩)⟩
 case imm k' xs =>
  simp only [slc] at h ⊢;obtain ⟨l,h,hl⟩ := idx_quiet h;obtain ⟨hh,h,hhi⟩ := idx_quiet h;exact ⟨_,h.2.2.2.2.2,fun k' hk' => hl _ (hhi _ ⟨h.1,h.2.1,h.2.2.1,h.2.2.2.1,h.2.2.2.2.1,hk'⟩)⟩
 case nils =>
  simp only [slc] at h ⊢;obtain ⟨l,h,hl⟩ := idx_quiet h;obtain ⟨hh,h,hhi⟩ := idx_quiet h;exact ⟨_,h.2.2.2,fun k' hk' => hl _ (hhi _ ⟨h.1,h.2.1,h.2.2.1,hk'⟩)⟩
theorem eqK_quiet {op : BinOp} {b : Option Bool} {k : AV K El → Prop} (h : eqK op b k) : ∃ r,k r ∧ ∀ k' : AV K El → Prop,k' r → eqK op b k' := by
 unfold eqK at h;split at h
 · exact ⟨_,h,fun k' hk => hk⟩
 · exact ⟨_,h,fun k' hk => hk⟩
 · exact h.elim
theorem binI_quiet {op : BinOp} {kk : IntKind} {m n : Int} {k : AV K El → Prop} (h : binI op kk m n k) : ∃ r,k r ∧ ∀ k' : AV K El → Prop,k' r → binI op kk m n k' := by
 cases op <;> first
  | exact h.elim
  | exact ⟨_,h,fun k' hk => hk⟩
  | exact ⟨_,h.2,fun k' hk => ⟨h.1,hk⟩⟩
theorem shI_quiet {op : BinOp} {kk : IntKind} {m n : Int} {k : AV K El → Prop} (h : shI op kk m n k) : ∃ r,k r ∧ ∀ k' : AV K El → Prop,k' r → shI op kk m n k' := by
 cases op <;> first
  | exact h.elim
  | exact ⟨_,h.2,fun k' hk => ⟨h.1,hk⟩⟩
theorem bin_quiet {op : BinOp} {c : TC} {x y : AV K El} {k : AV K El → Prop} (h : bin op c x y k) : ∃ r,k r ∧ ∀ k' : AV K El → Prop,k' r → bin op c x y k' := by
 unfold bin at h;split at h
 · split at h
   · obtain ⟨r,h1,h2⟩ := shI_quiet h; exact ⟨r,h1,fun k' hk => h2 k' hk⟩
   · obtain ⟨r,h1,h2⟩ := shI_quiet h; exact ⟨r,h1,fun k' hk => h2 k' hk⟩
   · rename_i hn1 hn2;obtain ⟨hk0,h⟩ := h;obtain ⟨r,h1,h2⟩ := binI_quiet h;refine ⟨r,h1,fun k' hk => ?_⟩
     cases op <;> first | exact ⟨hk0,h2 k' hk⟩ | exact absurd rfl hn1 | exact absurd rfl hn2
 · split at h
   · exact ⟨_,h.2,fun k' hk => ⟨h.1,hk⟩⟩
   · rename_i hn;obtain ⟨r,h1,h2⟩ := eqK_quiet h;refine ⟨r,h1,fun k' hk => ?_⟩
     cases op <;> first | exact h2 k' hk | exact absurd rfl hn
 · obtain ⟨r,h1,h2⟩ := eqK_quiet h; exact ⟨r,h1,fun k' hk => h2 k' hk⟩
 · obtain ⟨r,h1,h2⟩ := eqK_quiet h;refine ⟨r,h1,fun k' hk => ?_⟩;rename_i x y;cases x <;> cases y <;> exact h2 k' hk
 · obtain ⟨r,h1,h2⟩ := eqK_quiet h;refine ⟨r,h1,fun k' hk => ?_⟩;rename_i x y;cases x <;> cases y <;> exact h2 k' hk
 · obtain ⟨r,h1,h2⟩ := eqK_quiet h.2.2; exact ⟨r,h1,fun k' hk => ⟨h.1,h.2.1,h2 k' hk⟩⟩
 · exact h.elim
theorem content_quiet {H : Heap K El} {kk : K} {s : AV K El} {kt : List (El kk) → Prop} (h : content S H kk s kt) : ∃ ys,kt ys ∧ ∀ H' (kt' : List (El kk) → Prop),sameAt s H H' → kt' ys → content S H' kk s kt' := by
 unfold content at h;split at h
 · exact ⟨[],h,fun H' k' _ hk => hk⟩
 · split at h
   · rename_i ys hy;exact ⟨ys,h,fun H' k' _ hk => by simp only [content,hy]; exact hk⟩
   · exact h.elim
 · split at h
   · rename_i kr xs hx;have h3 := h.2.2;split at h3
     · rename_i ys hy;exact ⟨ys,h3,fun H' k' hs hk => by simp only [sameAt] at hs; simp only [content,hs,hx,hy]; exact ⟨h.1,h.2.1,hk⟩⟩
     · exact h3.elim
   · rename_i kr xs hx;have h3 := h.2.2;split at h3
     · rename_i ys hy;exact ⟨ys,h3,fun H' k' hs hk => by simp only [sameAt] at hs; simp only [content,hs,hx,hy]; exact ⟨h.1,h.2.1,hk⟩⟩
     · exact h3.elim
   · exact h.elim
 · exact h.elim
theorem G_quiet {p : Prim K El} (hq : p.quiet = true) {vs : List (AV K El)} {H : Heap K El} {k : AV K El → Heap K El → Prop} (h : G S p vs H k) :
    ∃ r,k r H ∧ ∀ H' (k' : AV K El → Heap K El → Prop),(∀ v ∈ vs,sameAt v H H') → k' r H' → G S p vs H' k' := by
 unfold G at h
 split at h <;> first | (simp [Prim.quiet] at hq; done) | skip
 · exact ⟨_,h,fun H' k' _ hk => hk⟩
 · exact ⟨_,h,fun H' k' _ hk => hk⟩
 · split at h
   · rename_i cs hl;exact ⟨_,h,fun H' k' _ hk => by simp only [G,hl]; exact hk⟩
   · exact h.elim
 · obtain ⟨us,h1,h2⟩ := rd_quiet h;exact ⟨_,h1,fun H' k' hs hk => by simp only [G]; exact h2 H' _ (hs _ (by simp)) hk⟩
 · obtain ⟨ha,h⟩ := h;unfold nilG at h
   split at h <;> first | exact h.elim | exact ⟨_,h,fun H' k' hs hk => ⟨sameAt_alive (hs _ (by simp)) ha,hk⟩⟩
 · obtain ⟨r,h1,h2⟩ := bin_quiet h.2.2;exact ⟨r,h1,fun H' k' hs hk => ⟨sameAt_alive (hs _ (by simp)) h.1,sameAt_alive (hs _ (by simp)) h.2.1,h2 _ hk⟩⟩
 · unfold un at h
   split at h <;> first | exact h.elim | exact ⟨_,h,fun H' k' _ hk => hk⟩
 · exact ⟨_,h,fun H' k' _ hk => hk⟩
 · obtain ⟨ys,h1,h2⟩ := content_quiet h;exact ⟨_,h1.2,fun H' k' hs hk => by simp only [G]; exact h2 H' _ (hs _ (by simp)) ⟨h1.1,hk⟩⟩
 · obtain ⟨r,h1,h2⟩ := slc_quiet h.2;exact ⟨r,h1,fun H' k' hs hk => ⟨sameAt_alive (hs _ (by simp)) h.1,h2 _ hk⟩⟩
 · obtain ⟨l,h,hl⟩ := idx_quiet h;obtain ⟨hh,h,hhi⟩ := idx_quiet h;exact ⟨_,h.2.2.2,fun H' k' _ hk => by simp only [G]; exact hl _ (hhi _ ⟨h.1,h.2.1,h.2.2.1,hk⟩)⟩
 · obtain ⟨ha,h⟩ := h;unfold faddrG at h
   split at h <;> first | exact h.elim | exact ⟨_,h,fun H' k' hs hk => ⟨sameAt_alive (hs _ (by simp)) ha,hk⟩⟩
 · exact ⟨_,h.2,fun H' k' _ hk => ⟨h.1,hk⟩⟩
 · obtain ⟨ha,h⟩ := h;unfold iaddrG at h
   split at h <;> first | exact h.elim | exact ⟨_,h.2.2.2,fun H' k' hs hk => ⟨sameAt_alive (hs _ (by simp)) ha,h.1,h.2.1,h.2.2.1,hk⟩⟩
 · exact ⟨_,h.2.2,fun H' k' _ hk => ⟨h.1,h.2.1,hk⟩⟩
 · split at h
   · rename_i v hv;exact ⟨_,h,fun H' k' _ hk => by simp only [G,hv]; exact hk⟩
   · exact h.elim
 · obtain ⟨ha,h⟩ := h;unfold lenI at h
   split at h <;> first | exact h.elim | exact ⟨_,h,fun H' k' hs hk => ⟨sameAt_alive (hs _ (by simp)) ha,hk⟩⟩
 · split at h
   · rename_i is his;refine ⟨_,h.2,fun H' k' hs hk => ?_⟩;simp only [G,his];refine ⟨?_,hk⟩;rw [List.all_eq_true];exact fun x hx => sameAt_alive (hs x hx) (List.all_eq_true.1 h.1 x hx)
   · exact h.elim
 · exact ⟨_,h.2.2.2,fun H' k' _ hk => ⟨h.1,h.2.1,h.2.2.1,hk⟩⟩
 · split at h
   · rename_i es hi;obtain ⟨hkd,h⟩ := h;split at h
     · rename_i hf
       exact ⟨_,h,fun H' k' hs hk => by
        have h1 := hs (.mp _) (List.mem_cons_self ..);simp only [sameAt] at h1;simp only [G,h1,hi,hf]
        exact ⟨hkd,hk⟩⟩
     · rename_i hf
       exact ⟨_,h,fun H' k' hs hk => by
        have h1 := hs (.mp _) (List.mem_cons_self ..);simp only [sameAt] at h1;simp only [G,h1,hi,hf]
        exact ⟨hkd,hk⟩⟩
     · exact h.elim
   · exact h.elim
 · exact h.elim
end Sh
end Go.Proofs.YtomdfaelgcefdaaGreatDoor
namespace Go.Proofs.YtomdfaelgcefdaaGreatDoor
open Go
namespace Sh
variable {K : Type} {El : K → Type}
def Opd.slot : Opd K El → List Nat
 | .tmp t => [t]
 | .const _ => []
def GIns.uses (i : GIns K El) : List Nat := (match i.g with | some (s,_) => [s] | none => []) ++ i.xs.flatMap Opd.slot
def compileOpB (S : Seat K El) (o : Oper) : Option (Prim K El × List (Opd K El)) := match compileOp S o with
 | some r => some r
 | none => some (.bad,[])
def compileIns (S : Seat K El) (N : Nat) (ops : Array Oper) (o : Oper) : Option (GIns K El) := match compileOpB S o with
 | some (p,xs) => match o.dst with
  | some d => if d < N then match o.guard with
      | none => some ⟨none,p,xs,some d,[]⟩
      | some (j,want) => match (ops[j]?).bind (·.dst) with
       | some s => if s < N then some ⟨some (s,want),p,xs,some d,[]⟩ else none
       | none => none
   else none
  | none => match o.guard with
   | none => some ⟨none,p,xs,none,[]⟩
   | some (j,want) => match (ops[j]?).bind (·.dst) with
    | some s => if s < N then some ⟨some (s,want),p,xs,none,[]⟩ else none
    | none => none
 | none => none
variable {S : Seat K El}
theorem compileIns_some {N : Nat} {ops : Array Oper} {o : Oper} {i : GIns K El} (h : compileIns S N ops o = some i) :
    compileOpB S o = some (i.p,i.xs) ∧ i.d = o.dst ∧ i.av = [] ∧ (∀ d,o.dst = some d → d < N) ∧
     ((o.guard = none ∧ i.g = none) ∨ ∃ j want s,o.guard = some (j,want) ∧ (ops[j]?).bind (·.dst) = some s ∧ s < N ∧ i.g = some (s,want)) := by
 unfold compileIns at h;split at h
 · rename_i p xs hc;split at h
   · rename_i d hd;split at h
     · rename_i hdN;split at h
       · rename_i hg; cases h; exact ⟨hc,hd.symm,rfl,fun d' h' => by rw [hd] at h'; cases h'; exact hdN,.inl ⟨hg,rfl⟩⟩
       · rename_i j want hg;split at h
         · rename_i s hs;split at h
           · rename_i hsN; cases h; exact ⟨hc,hd.symm,rfl,fun d' h' => by rw [hd] at h'; cases h'; exact hdN,.inr ⟨j,want,s,hg,hs,hsN,rfl⟩⟩
           · cases h
         · cases h
     · cases h
   · rename_i hd;split at h
     · rename_i hg; cases h; exact ⟨hc,hd.symm,rfl,(fun d' h' => by rw [hd] at h'; cases h'),.inl ⟨hg,rfl⟩⟩
     · rename_i j want hg;split at h
       · rename_i s hs;split at h
         · rename_i hsN; cases h; exact ⟨hc,hd.symm,rfl,(fun d' h' => by rw [hd] at h'; cases h'),.inr ⟨j,want,s,hg,hs,hsN,rfl⟩⟩
         · cases h
       · cases h
 · cases h
structure Rel (S : Seat K El) (N : Nat) (E0 : Env) (w0 : World) (E : Env) (st : St K El) (w : World) (a : Act) : Prop where
 emb : Emb S E st.H w
 fr : FrR S E w st.fr a
 ext : Ext E0 w0 E w
 size : a.tmps.size = N
 defers : a.defers = []
section
variable (ok : Ok S) {N : Nat} {E0 E : Env} {w0 w : World} {st : St K El} {a : Act}
include ok in
theorem FrR.upd {E' : Env} {w' : World} {fr : Nat → AV K El} (h : FrR S E w fr a) (hx : Ext E w E' w') {dst : Option Nat} (hd : ∀ d,dst = some d → d < a.tmps.size) {r : AV K El} {v : Value} (hv : VRv S E' w' r v) : FrR S E' w' (Sh.upd fr dst r) (a.put dst v) := by
 intro t
 cases dst with
 | none => exact VRv.mono ok hx (h t)
 | some d =>
  have hdl := hd d rfl;simp only [Sh.upd,Act.put]
  by_cases ht : t = d
  · subst ht;simp only [if_true];have : (a.tmps.setIfInBounds t v).getD t undef = v := by simp [Array.getD,hdl]
    rw [this]; exact hv
  · simp only [ht,if_false]
    have : (a.tmps.setIfInBounds d v).getD t undef = a.tmps.getD t undef := by
     simp only [Array.getD_eq_getD_getElem?];rw [Array.getElem?_setIfInBounds_ne (fun e => ht e.symm)]
    rw [this]; exact VRv.mono ok hx (h t)
theorem put_size (dst : Option Nat) (v : Value) : (a.put dst v).tmps.size = a.tmps.size := by cases dst <;> simp [Act.put]
theorem put_defers (dst : Option Nat) (v : Value) : (a.put dst v).defers = a.defers := by cases dst <;> simp [Act.put]
include ok in
theorem Rel.next (h : Rel S N E0 w0 E st w a) {E' : Env} {w' : World} {H' : Heap K El} (he : Emb S E' H' w') (hx : Ext E w E' w') {dst : Option Nat} (hd : ∀ d,dst = some d → d < N) {r : AV K El} {v : Value} (hv : VRv S E' w' r v) :
    Rel S N E0 w0 E' ⟨upd st.fr dst r,H'⟩ w' (a.put dst v) :=
 ⟨he,h.fr.upd ok hx (fun d hd' => by rw [h.size]; exact hd d hd') hv,h.ext.trans hx,by rw [put_size,h.size],by rw [put_defers,h.defers]⟩
include ok in
theorem ins_sound {ops : Array Oper} {o : Oper} {i : GIns K El} (hc : compileIns S N ops o = some i) {av : List Nat} (h : Rel S N E0 w0 E st w a) {k : St K El → Prop} (hv : ({ i with av := av } : GIns K El).vc S st k) {next : Act → World → Prop} {Q : Exit → Act → World → Prop}
    (hn : ∀ E' st' w' a',Rel S N E0 w0 E' st' w' a' → k st' → next a' w') : if Region.wanted o (yielded ops a.tmps) then o.wp S.P a w next Q ∨ (o.asks S.P a w ∧ LetsOut Q) else next (a.put o.dst undef) w := by
 obtain ⟨h1,h2,h3,h4,h5⟩ := compileIns_some hc
 have run : ({ i with av := av } : GIns K El).run S st k → o.wp S.P a w next Q := by
  intro hr;unfold compileOpB at h1;split at h1
  rotate_left
  · cases hp : i.p <;> rw [hp] at h1 <;> first | (cases h1; done) | skip
    exfalso;unfold GIns.run at hr;rw [hp] at hr;exact hr
  rename_i r1 hr1;cases h1;refine op_sound ok hr1 h.emb h.fr hr fun r H' E' w' v hk he hx hv => ?_;have hre := h.next ok he hx (dst := o.dst) (fun d hd => h4 d hd) hv;have hk2 := hk.2;simp only [h2] at hk2;exact hn _ _ _ _ hre hk2
 have skip : i.skip st k → next (a.put o.dst undef) w := by
  intro hs;have hre := h.next ok h.emb Ext.refl (dst := o.dst) (fun d hd => h4 d hd) (show VRv S E w (.tup []) undef from ⟨#[],rfl,rfl,fun j u hu => by simp at hu⟩);simp only [GIns.skip,h2] at hs;exact hn _ _ _ _ hre hs
 rcases h5 with ⟨hg,hig⟩ | ⟨j,want,s,hg,hs,hsN,hig⟩
 · have hw : Region.wanted o (yielded ops a.tmps) = true := by simp [Region.wanted,hg]
   rw [if_pos hw];simp only [GIns.vc,hig] at hv;exact .inl (run hv)
 · simp only [GIns.vc,hig] at hv;have hfr := h.fr s;have hsl : s < a.tmps.size := by rw [h.size]; exact hsN
   have key : ∃ b,Region.wanted o (yielded ops a.tmps) = b ∧ cas b (({ i with av := av } : GIns K El).run S st k) (i.skip st k) := by
    unfold onO at hv;split at hv
    · rename_i t ht;refine ⟨t,?_,hv⟩;unfold gate at ht;split at ht
      · rename_i b hb;rw [hb] at hfr;have hbv : a.tmps.getD s undef = .bool b := VR.bool_inv (show VR S E w _ _ from hfr);have hb2 : a.tmps[s]? = some (.bool b) := by rw [← hbv]; simp [Array.getD,hsl]
        have hy : yielded ops a.tmps j = some b := by simp [yielded,hs,hb2]
        cases ht;simp only [Region.wanted,hg,hy];cases b <;> cases want <;> rfl
      · rename_i hb;rw [hb] at hfr;obtain ⟨cs,hcs,_⟩ := hfr;have hb2 : a.tmps[s]? = some (.tuple cs) := by rw [← hcs]; simp [Array.getD,hsl]
        have hy : yielded ops a.tmps j = none := by simp [yielded,hs,hb2]
        cases ht;simp only [Region.wanted,hg,hy];rfl
      · cases ht
    · exact hv.elim
   obtain ⟨b,hw,hv⟩ := key;rw [hw];rw [cas_iff] at hv
   cases b with
   | true => simp only [if_true]; exact .inl (run (hv.1 rfl))
   | false => simp only [Bool.false_eq_true,if_false]; exact skip (hv.2 rfl)
def compileL (S : Seat K El) (N : Nat) (ops : Array Oper) : List Oper → Option (List (GIns K El))
 | [] => some []
 | o :: l => match compileIns S N ops o,compileL S N ops l with
  | some i,some is => some (i :: is)
  | _,_ => none
include ok in
theorem list_sound {ops : Array Oper} {Q : Exit → Act → World → Prop} : ∀ (l : List Oper) (is : List (GIns K El)),compileL S N ops l = some is → ∀ {E : Env} {st : St K El} {w : World} {a : Act},Rel S N E0 w0 E st w a → ∀ {k : St K El → Prop},vcL S is st k →
    (∀ E' st' w' a',Rel S N E0 w0 E' st' w' a' → k st' → Q .normal a' w') → wpList S.P ops Q l a w
 | [],is,hc,E,st,w,a,h,k,hv,hn => by simp [compileL] at hc; subst hc; exact hn _ _ _ _ h hv
 | o :: l,is,hc,E,st,w,a,h,k,hv,hn => by
  simp only [compileL] at hc;split at hc
  · rename_i i is' hi his;simp at hc; subst hc;obtain ⟨_,_,hav,_⟩ := compileIns_some hi;have hie : ({ i with av := i.av } : GIns K El) = i := rfl;unfold wpList;exact ins_sound ok hi (av := i.av) h (by rw [hie]; exact hv) fun E' st' w' a' hr hk => list_sound l is' his hr hk hn
  · cases hc
theorem upd_comm {fr : Nat → AV K El} {d e : Option Nat} (h : ∀ x,d = some x → e ≠ some x) (u v : AV K El) : upd (upd fr d u) e v = upd (upd fr e v) d u := by
 funext t
 cases d with
 | none => rfl
 | some d =>
  cases e with
  | none => rfl
  | some e =>
   have hde : e ≠ d := fun q => h d rfl (by rw [q]);simp only [upd]
   by_cases h1 : t = e
   · subst h1; simp [hde]
   · by_cases h2 : t = d
     · subst h2; simp [h1]
     · simp [h1,h2]
theorem opdV_upd {fr : Nat → AV K El} {d : Option Nat} {v : AV K El} {xs : List (Opd K El)} (h : ∀ x,d = some x → x ∉ xs.flatMap Opd.slot) : xs.map (opdV (upd fr d v)) = xs.map (opdV fr) := by
 refine List.map_congr_left fun x hx => ?_
 cases x with
 | const c => rfl
 | tmp t =>
  cases d with
  | none => rfl
  | some d =>
   have : d ∉ xs.flatMap Opd.slot := h d rfl;have ht : t ≠ d := fun e => this (List.mem_flatMap.2 ⟨_,hx,by simp [Opd.slot,e]⟩);simp [opdV,upd,ht]
theorem avOK_mem : ∀ {av : List Nat} {fr : Nat → AV K El} {H H' : Heap K El},avOK av fr H H' → ∀ s ∈ av,sameAt (fr s) H H'
 | [],_,_,_,_,s,hs => by simp at hs
 | b :: r,fr,H,H',h,s,hs => by
  rcases List.mem_cons.1 hs with rfl | hs
  · exact h.1
  · exact avOK_mem h.2 s hs
theorem sameAt_const {fr : Nat → AV K El} {H H' : Heap K El} {xs : List (Opd K El)} (hc : ∀ c,Opd.const c ∈ xs → ∀ H H' : Heap K El,sameAt c H H') (hs : ∀ s ∈ xs.flatMap Opd.slot,sameAt (fr s) H H') : ∀ v ∈ xs.map (opdV fr),sameAt v H H' := by
 intro v hv;obtain ⟨x,hx,rfl⟩ := List.mem_map.1 hv
 cases x with
 | const c => exact hc c hx H H'
 | tmp t => exact hs t (List.mem_flatMap.2 ⟨_,hx,by simp [Opd.slot]⟩)
end
end Sh
end Go.Proofs.YtomdfaelgcefdaaGreatDoor
namespace Go.Proofs.YtomdfaelgcefdaaGreatDoor
open Go
namespace Sh
variable {K : Type} {El : K → Type} {S : Seat K El}
def AV.noref : AV K El → Bool
 | .ptr _ _ | .eptr _ _ _ _ | .own _ _ _ _ _ | .mp _ | .clo _ _ => false
 | _ => true
def GIns.plainC (i : GIns K El) : Bool := i.xs.all fun
 | .const c => c.noref
 | .tmp _ => true
theorem sameAt_noref {c : AV K El} (h : c.noref = true) (H H' : Heap K El) : sameAt c H H' := by
 cases c <;> first | trivial | simp [AV.noref] at h
theorem plainC_same {i : GIns K El} (h : i.plainC = true) : ∀ c,Opd.const c ∈ i.xs → ∀ H H' : Heap K El,sameAt c H H' :=
 fun _ hc H H' => sameAt_noref (List.all_eq_true.1 h _ hc) H H'
theorem mem_uses {i : GIns K El} {x : Nat} (h : x ∈ i.xs.flatMap Opd.slot) : x ∈ i.uses := by
 unfold GIns.uses; exact List.mem_append_right _ h
theorem guard_uses {i : GIns K El} {s : Nat} {b : Bool} (h : i.g = some (s,b)) : s ∈ i.uses := by
 unfold GIns.uses; simp [h]
structure Swap (j i : GIns K El) : Prop where
 q : j.p.quiet = true
 jav : j.av = []
 jd_i : ∀ x,j.d = some x → x ∉ i.uses
 jd_id : ∀ x,j.d = some x → i.d ≠ some x
 jd_j : ∀ x,j.d = some x → x ∉ j.uses
 id_j : ∀ x,i.d = some x → x ∉ j.uses
 av : i.p.quiet = true ∨ ∀ s ∈ j.uses,s ∈ i.av
def dropd (d : Option Nat) (av : List Nat) : List Nat := match d with
 | some d => av.filter fun s => !(s == d)
 | none => av
theorem avOK_dropd : ∀ {av : List Nat} {fr : Nat → AV K El} {d : Option Nat} {v : AV K El} {H H' : Heap K El},avOK av (upd fr d v) H H' → avOK (dropd d av) fr H H'
 | av,fr,none,v,H,H',h => h
 | [],fr,some d,v,H,H',_ => trivial
 | b :: r,fr,some d,v,H,H',h => by
  have ih : avOK (dropd (some d) r) fr H H' := avOK_dropd h.2;simp only [dropd,List.filter_cons]
  by_cases hb : b = d
  · subst hb; simpa [dropd] using ih
  · have : (b == d) = false := by simpa using hb
    rw [this];have h1 : sameAt (upd fr (some d) v b) H H' := h.1;simp only [upd,if_neg hb] at h1;exact ⟨h1,ih⟩
theorem mem_dropd {d : Option Nat} {av : List Nat} {s : Nat} (h : s ∈ av) (hd : d ≠ some s) : s ∈ dropd d av := by
 cases d with
 | none => exact h
 | some d => exact List.mem_filter.2 ⟨h,by simpa using fun e : s = d => hd (by rw [e])⟩
theorem getD_upd {fr : Nat → AV K El} {d : Option Nat} {v : AV K El} {s : Nat} (h : ∀ x,d = some x → x ≠ s) : upd fr d v s = fr s := by
 cases d with
 | none => rfl
 | some d => simp [upd,Ne.symm (h d rfl)]
theorem sameIs_refl (H : Heap K El) : ∀ is,sameIs H H is
 | [] => trivial
 | none :: r => sameIs_refl H r
 | some _ :: r => ⟨rfl,sameIs_refl H r⟩
theorem sameAt_refl (v : AV K El) (H : Heap K El) : sameAt v H H := by cases v <;> first | exact sameIs_refl _ _ | simp [sameAt]
theorem vc_none {i : GIns K El} (hg : i.g = none) (st : St K El) (k : St K El → Prop) : i.vc S st k = i.run S st k := by simp only [GIns.vc,hg]
theorem vc_some {i : GIns K El} {s : Nat} {want : Bool} (hg : i.g = some (s,want)) (st : St K El) (k : St K El → Prop) : i.vc S st k = onO (gate (st.fr s) want) fun b => cas b (i.run S st k) (i.skip st k) := by simp only [GIns.vc,hg]
theorem onO_some {o : Option Bool} {k : Bool → Prop} (h : onO o k) : ∃ b,o = some b ∧ k b := by
 cases o <;> first | exact h.elim | exact ⟨_,rfl,h⟩
theorem onB_some {v : AV K El} {k : Bool → Prop} (h : onB v k) : ∃ b,v = .bool b ∧ k b := by
 cases v <;> first | exact h.elim | exact ⟨_,rfl,h⟩
theorem swap_ins {j i : GIns K El} (hs : Swap j i) (hj : j.plainC = true) {st : St K El} {k : St K El → Prop} (h : j.vc S st fun st' => i.vc S st' k) : ({ i with av := dropd j.d i.av } : GIns K El).vc S st fun st' => j.vc S st' k := by
 have hjrun : ∀ {kk : St K El → Prop},j.run S st kk → ∃ r,kk ⟨upd st.fr j.d r,st.H⟩ ∧ ∀ (fr : Nat → AV K El) (H' : Heap K El) (k' : St K El → Prop),(∀ s ∈ j.uses,fr s = st.fr s) → (∀ s ∈ j.uses,sameAt (st.fr s) st.H H') → k' ⟨upd fr j.d r,H'⟩ → j.run S ⟨fr,H'⟩ k' := by
  intro kk hr;unfold GIns.run at hr;obtain ⟨r,h1,h2⟩ := G_quiet hs.q hr;refine ⟨r,h1.2,fun fr H' k' hfr hsame hk => ?_⟩;unfold GIns.run
  have hxs : j.xs.map (opdV fr) = j.xs.map (opdV st.fr) := List.map_congr_left fun x hx => by
   cases x with
   | const c => rfl
   | tmp t => exact hfr t (mem_uses (List.mem_flatMap.2 ⟨_,hx,by simp [Opd.slot]⟩))
  simp only [hxs];refine h2 H' _ (sameAt_const (plainC_same hj) fun s hsu => hsame s (mem_uses hsu)) ⟨?_,hk⟩;rw [hs.jav]; trivial
 have hjstep : ∃ r,(i.vc S ⟨upd st.fr j.d r,st.H⟩ k) ∧ ∀ (fr : Nat → AV K El) (H' : Heap K El) (k' : St K El → Prop),(∀ s ∈ j.uses,fr s = st.fr s) → (∀ s ∈ j.uses,sameAt (st.fr s) st.H H') → k' ⟨upd fr j.d r,H'⟩ → j.vc S ⟨fr,H'⟩ k' := by
  cases hg : j.g with
  | none =>
   rw [vc_none hg] at h;obtain ⟨r,h1,h2⟩ := hjrun h;exact ⟨r,h1,fun fr H' k' a b c => by rw [vc_none hg]; exact h2 fr H' k' a b c⟩
  | some sw =>
   obtain ⟨s,want⟩ := sw;rw [vc_some hg] at h;obtain ⟨b,hb,h⟩ := onO_some h;rw [cas_iff] at h
   cases hbw : b with
   | true =>
    obtain ⟨r,h1,h2⟩ := hjrun (h.1 hbw);refine ⟨r,h1,fun fr H' k' a b' c => ?_⟩;rw [vc_some hg];simp only [a s (guard_uses hg),hb,onO,cas_iff];exact ⟨fun _ => h2 fr H' k' a b' c,fun hf => by rw [hbw] at hf; cases hf⟩
   | false =>
    refine ⟨.tup [],h.2 hbw,fun fr H' k' a b' c => ?_⟩;rw [vc_some hg];simp only [a s (guard_uses hg),hb,onO,cas_iff];exact ⟨fun hf => (by rw [hbw] at hf; cases hf),fun _ => c⟩
 obtain ⟨r,hi,hback⟩ := hjstep
 have hirun : i.run S ⟨upd st.fr j.d r,st.H⟩ k → ({ i with av := dropd j.d i.av } : GIns K El).run S st fun st' => j.vc S st' k := by
  intro hr;unfold GIns.run at hr ⊢;have hxs : i.xs.map (opdV (upd st.fr j.d r)) = i.xs.map (opdV st.fr) := opdV_upd fun x hx hm => hs.jd_i x hx (mem_uses hm);simp only [hxs] at hr
  have fin : ∀ (ri : AV K El) (H2 : Heap K El),avOK i.av (upd st.fr j.d r) st.H H2 → (∀ s ∈ j.uses,sameAt (st.fr s) st.H H2) → k ⟨upd (upd st.fr j.d r) i.d ri,H2⟩ → avOK (dropd j.d i.av) st.fr st.H H2 ∧ j.vc S ⟨upd st.fr i.d ri,H2⟩ k := by
   intro ri H2 hav hsame hk;refine ⟨avOK_dropd hav,?_⟩;refine hback _ _ _ (fun s hsu => getD_upd fun x hx e => hs.id_j x hx (e ▸ hsu)) hsame ?_;rw [upd_comm (fun x hx => hs.jd_id x hx)] at hk;exact hk
  rcases hs.av with hq | hav
  · obtain ⟨ri,h1,h2⟩ := G_quiet hq hr;exact h2 st.H _ (fun v _ => sameAt_refl _ _) (fin ri st.H h1.1 (fun s _ => sameAt_refl _ _) h1.2)
  · refine G_mono hr fun ri H2 h2 => fin ri H2 h2.1 (fun s hsu => ?_) h2.2;have := avOK_mem h2.1 s (hav s hsu)
    rwa [getD_upd fun x hx e => hs.jd_j x hx (e ▸ hsu)] at this
 cases hg : i.g with
 | none =>
  rw [vc_none hg] at hi;rw [vc_none rfl];exact hirun hi
 | some sw =>
  obtain ⟨s,want⟩ := sw;rw [vc_some hg] at hi;rw [vc_some rfl];have hsu : upd st.fr j.d r s = st.fr s := getD_upd fun x hx e => hs.jd_i x hx (e ▸ guard_uses hg);simp only [hsu] at hi;obtain ⟨b,hb,hi⟩ := onO_some hi;rw [hb];simp only [onO,cas_iff] at hi ⊢;refine ⟨fun hbw => hirun (hi.1 hbw),fun hbw => ?_⟩;have := hi.2 hbw;unfold GIns.skip at this ⊢;refine hback _ _ _ (fun s hsu => getD_upd fun x hx e => hs.id_j x hx (e ▸ hsu)) (fun s _ => sameAt_refl _ _) ?_;simp only [] at this;rw [upd_comm (fun x hx => hs.jd_id x hx)] at this;exact this
theorem vcL_append : ∀ (l1 l2 : List (GIns K El)) (st : St K El) (k : St K El → Prop),vcL S (l1 ++ l2) st k ↔ vcL S l1 st fun st' => vcL S l2 st' k
 | [],_,_,_ => Iff.rfl
 | i :: l1,l2,st,k => by
  simp only [List.cons_append,vcL];constructor
  · intro h; exact GIns.vc_mono h fun st' h' => (vcL_append l1 l2 st' k).1 h'
  · intro h; exact GIns.vc_mono h fun st' h' => (vcL_append l1 l2 st' k).2 h'
def drops : List (GIns K El) → List Nat → List Nat
 | [],av => av
 | j :: l,av => dropd j.d (drops l av)
theorem mem_drops {s : Nat} : ∀ {l : List (GIns K El)} {av : List Nat},s ∈ av → (∀ j ∈ l,j.d ≠ some s) → s ∈ drops l av
 | [],_,h,_ => h
 | j :: l,_,h,hd => mem_dropd (mem_drops (l := l) h fun j' hj' => hd j' (List.mem_cons_of_mem _ hj')) (hd j (by simp))
theorem vcL_front {i : GIns K El} {l2 : List (GIns K El)} : ∀ (l1 : List (GIns K El)) {st : St K El} {k : St K El → Prop},(∀ j ∈ l1,Swap j i ∧ j.plainC = true) → (i.p.quiet = true ∨ l1.Pairwise fun y z => ∀ s ∈ y.uses,z.d ≠ some s) →
    vcL S (l1 ++ i :: l2) st k → ({ i with av := drops l1 i.av } : GIns K El).vc S st fun st' => vcL S (l1 ++ l2) st' k
 | [],_,_,_,_,h => h
 | j :: l1,st,k,hl,hp,h => by
  simp only [List.cons_append,vcL] at h
  have h1 : j.vc S st fun st' => ({ i with av := drops l1 i.av } : GIns K El).vc S st' fun st'' => vcL S (l1 ++ l2) st'' k :=
   GIns.vc_mono h fun st' h' => vcL_front l1 (fun j hj => hl j (List.mem_cons_of_mem _ hj)) (hp.imp id fun h => (List.pairwise_cons.1 h).2) h'
  have hs := (hl j (by simp)).1
  have hs' : Swap j { i with av := drops l1 i.av } := ⟨hs.q,hs.jav,hs.jd_i,hs.jd_id,hs.jd_j,hs.id_j,by
   rcases hp with hq | hp
   · exact .inl hq
   · rcases hs.av with hq | hav
     · exact .inl hq
     · exact .inr fun s hsu => mem_drops (hav s hsu) fun j' hj' => (List.pairwise_cons.1 hp).1 j' hj' s hsu⟩
  have := swap_ins hs' (hl j (by simp)).2 h1;exact GIns.vc_mono this fun st' h' => h'
end Sh
end Go.Proofs.YtomdfaelgcefdaaGreatDoor
namespace Go.Proofs.YtomdfaelgcefdaaGreatDoor
open Go
namespace Sh
variable {K : Type} {El : K → Type} {S : Seat K El}
def preds (ops : Array Oper) (n : Nat) : List Nat := match ops[n]? with
 | some o => (o.after.toList.filter fun e => Region.binds .any e).map (·.on)
 | none => []
def anc (ops : Array Oper) : Nat → Nat → List Nat
 | 0,_ => []
 | f + 1,n => preds ops n ++ (preds ops n).flatMap (anc ops f)
def swapB (j i : GIns K El) : Bool :=
 j.p.quiet && j.av.isEmpty && j.plainC &&
 (match j.d with | some x => !i.uses.contains x && i.d != some x && !j.uses.contains x | none => true) &&
 (match i.d with | some x => !j.uses.contains x | none => true) &&
 (i.p.quiet || j.uses.all fun s => i.av.contains s)
theorem swapB_spec {j i : GIns K El} (h : swapB j i = true) : Swap j i ∧ j.plainC = true := by
 unfold swapB at h;simp only [Bool.and_eq_true,Bool.or_eq_true] at h;obtain ⟨⟨⟨⟨⟨h1,h2⟩,h3⟩,h4⟩,h5⟩,h6⟩ := h;refine ⟨⟨h1,List.isEmpty_iff.1 h2,fun x hx => ?_,fun x hx => ?_,fun x hx => ?_,fun x hx => ?_,?_⟩,h3⟩
 · rw [hx] at h4; simp at h4; exact h4.1.1
 · rw [hx] at h4; simp at h4; exact h4.1.2
 · rw [hx] at h4; simp at h4; exact h4.2
 · rw [hx] at h5; simpa using h5
 · rcases h6 with h6 | h6
   · exact .inl h6
   · exact .inr fun s hs => by simpa using List.all_eq_true.1 h6 s hs
def chainB : List (GIns K El) → Bool
 | [] => true
 | y :: l => (l.all fun z => match z.d with | some d => !y.uses.contains d | none => true) && chainB l
theorem chainB_spec : ∀ {l : List (GIns K El)},chainB l = true → l.Pairwise fun y z => ∀ s ∈ y.uses,z.d ≠ some s
 | [],_ => List.Pairwise.nil
 | y :: l,h => by
  simp only [chainB,Bool.and_eq_true] at h;refine List.pairwise_cons.2 ⟨fun z hz s hs he => ?_,chainB_spec h.2⟩;have := List.all_eq_true.1 h.1 z hz;rw [he] at this;simp [hs] at this
def loose (ops : Array Oper) (n : Nat) (l : List (Nat × GIns K El)) : List (Nat × GIns K El) := l.filter fun y => !(anc ops ops.size n).contains y.1
def pairsOK (ops : Array Oper) (before : List (Nat × GIns K El)) : List (Nat × GIns K El) → Bool
 | [] => true
 | x :: l => (before.all fun y => (anc ops ops.size x.1).contains y.1 || swapB y.2 x.2) && (x.2.p.quiet || chainB ((loose ops x.1 before).map (·.2))) && pairsOK ops (before ++ [x]) l
def drawOK (ops : Array Oper) (cs : List (Nat × GIns K El)) : Bool :=
 cs.length == ops.size && decide (cs.map (·.1)).Nodup && cs.all (fun x => x.1 < ops.size) && (List.range ops.size).all (fun n => cs.any fun x => x.1 == n) &&
 ((List.range ops.size).all fun n => (preds ops n).all fun e => e < n) && pairsOK ops [] cs
theorem pairsOK_spec {ops : Array Oper} : ∀ {l before : List (Nat × GIns K El)},pairsOK ops before l = true → ∀ l1 x l2,l = l1 ++ x :: l2 → ∀ y ∈ before ++ l1,(anc ops ops.size x.1).contains y.1 = true ∨ swapB y.2 x.2 = true
 | [],before,_,l1,x,l2,h => by simp at h
 | z :: l,before,h,l1,x,l2,he => by
  simp only [pairsOK,Bool.and_eq_true] at h
  cases l1 with
  | nil =>
   simp at he;obtain ⟨rfl,rfl⟩ := he;intro y hy;simp at hy;have := List.all_eq_true.1 h.1.1 y hy;simpa [Bool.or_eq_true] using this
  | cons q l1 =>
   simp at he;obtain ⟨rfl,he⟩ := he;intro y hy;exact pairsOK_spec h.2 l1 x l2 he y (by simpa using hy)
theorem pairsOK_chain {ops : Array Oper} : ∀ {l before : List (Nat × GIns K El)},pairsOK ops before l = true → ∀ l1 x l2,l = l1 ++ x :: l2 → x.2.p.quiet = true ∨ chainB ((loose ops x.1 (before ++ l1)).map (·.2)) = true
 | [],before,_,l1,x,l2,h => by simp at h
 | z :: l,before,h,l1,x,l2,he => by
  simp only [pairsOK,Bool.and_eq_true] at h
  cases l1 with
  | nil =>
   simp at he;obtain ⟨rfl,rfl⟩ := he;simpa [Bool.or_eq_true] using h.1.2
  | cons q l1 =>
   simp at he;obtain ⟨rfl,he⟩ := he;have := pairsOK_chain h.2 l1 x l2 he;simpa using this
inductive OT (K : Type) (El : K → Type) where
 | done
 | q (n : Nat) (i : GIns K El) (t : OT K El)
 | one (n : Nat) (i : GIns K El) (t : OT K El)
 | br (n : Nat) (i : GIns K El) (t o : OT K El)
def OT.heads : OT K El → List Nat
 | .one n _ _ => [n]
 | .br n _ _ o => n :: o.heads
 | _ => []
def OT.All (P : Nat → GIns K El → Prop) : OT K El → Prop
 | .done => True
 | .q n i t => P n i ∧ t.All P
 | .one n i t => P n i ∧ t.All P
 | .br n i t o => P n i ∧ t.All P ∧ o.All P
def vcT (S : Seat K El) : OT K El → St K El → (St K El → Prop) → Prop
 | .done,st,k => k st
 | .q _ i t,st,k => i.vc S st fun st' => vcT S t st' k
 | .one _ i t,st,k => i.vc S st fun st' => vcT S t st' k
 | .br _ i t o,st,k => (i.vc S st fun st' => vcT S t st' k) ∧ vcT S o st k
def OpAt (S : Seat K El) (N : Nat) (ops : Array Oper) (n : Nat) (i : GIns K El) : Prop := ∃ o i0,ops[n]? = some o ∧ compileIns S N ops o = some i0 ∧ i = { i0 with av := i.av }
def aft (ops : Array Oper) (before : List (Nat × GIns K El)) (n : Nat) (i : GIns K El) : Bool := before.all fun y => (anc ops ops.size n).contains y.1 || swapB y.2 i
def chkH (ops : Array Oper) (L hs : List Nat) : Bool := (List.range ops.size).all fun x => L.contains x || hs.contains x || hs.any fun h => (anc ops ops.size x).contains h
def chkI (ops : Array Oper) (before : List (Nat × GIns K El)) (L : List Nat) (n : Nat) (i : GIns K El) : Bool := decide (n < ops.size) && !L.contains n && aft ops before n i && (i.p.quiet || chainB ((loose ops n before).map (·.2)))
def chkT (ops : Array Oper) : List (Nat × GIns K El) → List Nat → List Nat → OT K El → Bool
 | _,L,top,.done => top.isEmpty && (List.range ops.size).all fun x => L.contains x
 | before,L,top,.q n i t => top.isEmpty && decide (n < ops.size) && !L.contains n && i.p.quiet && aft ops before n i && chkT ops (before ++ [(n,i)]) (n :: L) [] t
 | before,L,top,.one n i t => chkH ops L (top ++ [n]) && chkI ops before L n i && chkT ops before (n :: L) [] t
 | before,L,top,.br n i t o => chkH ops L (top ++ (n :: o.heads)) && chkI ops before L n i && chkT ops before (n :: L) [] t && chkT ops before L (top ++ [n]) o
def un_ (listed : Array Bool) (n : Nat) : Bool := !(listed.getD n true)
theorem mem_ready' {ops : Array Oper} {listed : Array Bool} {n : Nat} : n ∈ Region.ready .any ops listed ↔ n < ops.size ∧ listed.getD n true = false ∧ ∀ e ∈ preds ops n,listed.getD e false = true := by
 unfold Region.ready preds;simp only [List.mem_filter,List.mem_range,Bool.and_eq_true,Bool.not_eq_true'];constructor
 · rintro ⟨h1,h2,h3⟩;refine ⟨h1,h2,fun e he => ?_⟩;have ho : ops[n]? = some ops[n] := by simp [h1]
   rw [ho] at h3 he;simp only [Option.map_some,Option.getD_some,Array.all_eq_true_iff_forall_mem] at h3;simp only [List.mem_map,List.mem_filter,Array.mem_toList_iff] at he;obtain ⟨x,⟨hx,hb⟩,rfl⟩ := he;have := h3 x hx;simpa [hb] using this
 · rintro ⟨h1,h2,h3⟩;refine ⟨h1,h2,?_⟩;have ho : ops[n]? = some ops[n] := by simp [h1]
   rw [ho] at h3 ⊢;simp only [Option.map_some,Option.getD_some,Array.all_eq_true_iff_forall_mem];intro x hx
   cases hb : Region.binds .any x with
   | false => rfl
   | true =>
    have := h3 x.on (List.mem_map.2 ⟨x,List.mem_filter.2 ⟨by simpa using hx,hb⟩,rfl⟩);simpa using this
section
variable (ok : Ok S) {N : Nat} {E0 : Env} {w0 : World} {ops : Array Oper}
theorem anc_listed {listed : Array Bool} (hc : ∀ n,listed.getD n false = true → ∀ e ∈ preds ops n,listed.getD e false = true) : ∀ (f n : Nat),(∀ e ∈ preds ops n,listed.getD e false = true) → ∀ m ∈ anc ops f n,listed.getD m false = true
 | 0,_,_,m,h => by simp [anc] at h
 | f + 1,n,hp,m,h => by
  simp only [anc,List.mem_append,List.mem_flatMap] at h
  rcases h with h | ⟨e,he,h⟩
  · exact hp m h
  · exact anc_listed hc f e (fun e' he' => hc e (hp e he) e' he') m h
theorem some_ready {listed : Array Bool} (hlt : ∀ n,n < ops.size → ∀ e ∈ preds ops n,e < n) (hsz : listed.size = ops.size) : ∀ (n : Nat),n < ops.size → listed.getD n true = false → Region.ready .any ops listed ≠ [] := by
 intro n
 induction n using Nat.strongRecOn with
 | _ n ih =>
  intro hn hu
  by_cases hp : ∀ e ∈ preds ops n,listed.getD e false = true
  · intro h0;have := mem_ready'.2 ⟨hn,hu,hp⟩;rw [h0] at this;simp at this
  · simp only [Classical.not_forall] at hp;obtain ⟨e,he,hne⟩ := hp;have hen := hlt n hn e he;refine ih e hen (by omega) ?_;have hel : e < listed.size := by omega
    simp only [Array.getD,hel,dif_pos] at hne ⊢;simpa using hne
include ok in
theorem any_sound {Q : Exit → Act → World → Prop} {cs : List (Nat × GIns K El)} (hd : drawOK ops cs = true) (hc : ∀ x ∈ cs,∃ o i,ops[x.1]? = some o ∧ compileIns S N ops o = some i ∧ x.2 = { i with av := x.2.av }) {k : St K El → Prop}
    (hn : ∀ E' st' w' a',Rel S N E0 w0 E' st' w' a' → k st' → Q .normal a' w') :
    ∀ (fuel : Nat) (listed : Array Bool) {E : Env} {st : St K El} {w : World} {a : Act},listed.size = ops.size → (cs.filter fun x => un_ listed x.1).length = fuel → (∀ n,listed.getD n false = true → ∀ e ∈ preds ops n,listed.getD e false = true) →
     Rel S N E0 w0 E st w a → vcL S ((cs.filter fun x => un_ listed x.1).map (·.2)) st k → wpAny S.P .any ops Q fuel listed a w := by
 simp only [drawOK,Bool.and_eq_true,decide_eq_true_eq] at hd;obtain ⟨⟨⟨⟨⟨_,hnd⟩,hall⟩,hev⟩,hlt⟩,hpairs⟩ := hd
 have hlt' : ∀ n,n < ops.size → ∀ e ∈ preds ops n,e < n := fun n hn e he => by
  have := List.all_eq_true.1 (List.all_eq_true.1 hlt n (by simpa using hn)) e he;simpa using this
 have hmem : ∀ n,n < ops.size → ∃ x ∈ cs,x.1 = n := by
  intro n hn';have := List.all_eq_true.1 hev n (by simpa using hn');obtain ⟨x,hx,hxe⟩ := List.any_eq_true.1 this;exact ⟨x,hx,by simpa using hxe⟩
 have hidx : ∀ x ∈ cs,x.1 < ops.size := fun x hx => by simpa using List.all_eq_true.1 hall x hx
 intro fuel
 induction fuel with
 | zero =>
  intro listed E st w a hsz hrem hcl hre hv;have hnil : cs.filter (fun x => un_ listed x.1) = [] := List.eq_nil_of_length_eq_zero hrem;rw [hnil] at hv;refine ⟨?_,hn _ _ _ _ hre hv⟩;rw [List.eq_nil_iff_forall_not_mem];intro n hnr;obtain ⟨h1,h2,_⟩ := mem_ready'.1 hnr;obtain ⟨x,hx,rfl⟩ := hmem n h1;have : x ∈ cs.filter (fun x => un_ listed x.1) := List.mem_filter.2 ⟨hx,by simp [un_,h2]⟩;rw [hnil] at this;simp at this
 | succ fuel ih =>
  intro listed E st w a hsz hrem hcl hre hv;refine ⟨fun h0 => ?_,fun n hnr => ?_⟩
  · exfalso
    obtain ⟨x,hx⟩ : ∃ x,x ∈ cs.filter (fun x => un_ listed x.1) := by
     cases hq : cs.filter (fun x => un_ listed x.1) with
     | nil => rw [hq] at hrem; simp at hrem
     | cons x l => exact ⟨x,by simp⟩
    obtain ⟨hx1,hx2⟩ := List.mem_filter.1 hx;exact some_ready hlt' hsz x.1 (hidx x hx1) (by simpa [un_] using hx2) h0
  · obtain ⟨h1,h2,h3⟩ := mem_ready'.1 hnr;obtain ⟨x,hx,rfl⟩ := hmem n h1;obtain ⟨l1,l2,rfl⟩ := List.append_of_mem hx;have hux : un_ listed x.1 = true := by simp [un_,h2]
    have hfx : (x :: l2).filter (fun x => un_ listed x.1) = x :: l2.filter (fun x => un_ listed x.1) := by simp [hux]
    rw [List.filter_append,hfx,List.map_append,List.map_cons] at hv
    have hswap : ∀ j ∈ (l1.filter fun x => un_ listed x.1).map (·.2),Swap j x.2 ∧ j.plainC = true := by
     intro j hj;obtain ⟨y,hy,rfl⟩ := List.mem_map.1 hj;obtain ⟨hy1,hy2⟩ := List.mem_filter.1 hy
     rcases pairsOK_spec hpairs l1 x l2 rfl y (by simpa using hy1) with hq | hq
     · exfalso;have := anc_listed hcl ops.size x.1 h3 y.1 (by simpa using hq);have hyl : y.1 < listed.size := by rw [hsz]; exact hidx y (by simp [hy1])
       simp only [un_,Array.getD,hyl,dif_pos] at hy2 this;rw [this] at hy2;simp at hy2
     · exact swapB_spec hq
    have hpw : x.2.p.quiet = true ∨ ((l1.filter fun x => un_ listed x.1).map (·.2)).Pairwise fun y z => ∀ s ∈ y.uses,z.d ≠ some s := by
     refine (pairsOK_chain hpairs l1 x l2 rfl).imp id fun hch => ?_;refine (chainB_spec hch).sublist (List.Sublist.map _ ?_)
     have he : l1.filter (fun y => un_ listed y.1) = (loose ops x.1 l1).filter (fun y => un_ listed y.1) := by
      unfold loose;rw [List.filter_filter];refine List.filter_congr fun y hy => ?_
      cases hu : un_ listed y.1 with
      | false => simp
      | true =>
       cases hq : (anc ops ops.size x.1).contains y.1 with
       | false => simp
       | true =>
        exfalso;have := anc_listed hcl ops.size x.1 h3 y.1 (by simpa using hq);have hyl : y.1 < listed.size := by rw [hsz]; exact hidx y (by simp [hy])
        simp only [un_,Array.getD,hyl,dif_pos] at hu this;rw [this] at hu;simp at hu
     rw [he];simp
    have hfront := vcL_front _ hswap hpw hv;obtain ⟨o,i,ho,hi,hie⟩ := hc x hx
    have hset : ∀ m,m ≠ x.1 → un_ (listed.setIfInBounds x.1 true) m = un_ listed m := by
     intro m hm;simp only [un_,Array.getD_eq_getD_getElem?];rw [Array.getElem?_setIfInBounds_ne (fun e => hm e.symm)]
    have hself : un_ (listed.setIfInBounds x.1 true) x.1 = false := by
     have : x.1 < listed.size := by rw [hsz]; exact h1
     simp [un_,Array.getD,this]
    have hne : ∀ y,y ∈ l1 ∨ y ∈ l2 → y.1 ≠ x.1 := by
     intro y hy he;rw [List.map_append,List.map_cons,List.nodup_append] at hnd;obtain ⟨_,hnd2,hdis⟩ := hnd
     rcases hy with hy | hy
     · exact hdis y.1 (List.mem_map.2 ⟨y,hy,rfl⟩) x.1 (by simp) he
     · exact (List.nodup_cons.1 hnd2).1 (he ▸ List.mem_map.2 ⟨y,hy,rfl⟩)
    have hrem' : (l1 ++ x :: l2).filter (fun y => un_ (listed.setIfInBounds x.1 true) y.1) = l1.filter (fun y => un_ listed y.1) ++ l2.filter (fun y => un_ listed y.1) := by
     rw [List.filter_append,List.filter_cons_of_neg (by simp [hself])]
     congr 1
     · exact List.filter_congr fun y hy => hset y.1 (hne y (.inl hy))
     · exact List.filter_congr fun y hy => hset y.1 (hne y (.inr hy))
    have hgo := ins_sound ok hi (av := drops ((l1.filter fun x => un_ listed x.1).map (·.2)) x.2.av) hre (next := wpAny S.P .any ops Q fuel (listed.setIfInBounds x.1 true)) (Q := Q) (by rw [hie] at hfront; exact hfront) fun E' st' w' a' hr hk => by
     refine ih (listed.setIfInBounds x.1 true) (by simpa using hsz) ?_ ?_ hr ?_
     · rw [hrem'];rw [List.filter_append,hfx] at hrem;simp at hrem ⊢;omega
     · intro m hm e he;have hmono : listed.getD e false = true → (listed.setIfInBounds x.1 true).getD e false = true := fun h => getD_set_true h
       by_cases hmx : m = x.1
       · subst hmx; exact hmono (h3 e he)
       · refine hmono (hcl m ?_ e he)
         rwa [getD_set_ne false (fun e => hmx e.symm)] at hm
     · rw [hrem',List.map_append]; exact hk
    unfold wpOp;rw [ho];exact hgo
theorem un_iff {listed : Array Bool} {n : Nat} (h : n < listed.size) : un_ listed n = true ↔ ¬ listed.getD n false = true := by
 have e1 : listed.getD n true = listed[n] := by simp [Array.getD,h]
 have e2 : listed.getD n false = listed[n] := by simp [Array.getD,h]
 unfold un_;rw [e1,e2];simp
theorem head_find {before : List (Nat × GIns K El)} {L : List Nat} {P : Nat → GIns K El → Prop} {k : St K El → Prop} {n : Nat} : ∀ {t : OT K El} {top : List Nat},n ∈ t.heads → chkT ops before L top t = true → t.All P →
    ∃ i t',chkT ops before (n :: L) [] t' = true ∧ t'.All P ∧ P n i ∧ aft ops before n i = true ∧ (i.p.quiet = true ∨ chainB ((loose ops n before).map (·.2)) = true) ∧ ∀ st,vcT S t st k → i.vc S st fun st' => vcT S t' st' k
 | .done,_,h,_,_ => by simp [OT.heads] at h
 | .q _ _ _,_,h,_,_ => by simp [OT.heads] at h
 | .one m i t',top,h,hc,ha => by
  simp only [OT.heads,List.mem_singleton] at h;subst h;simp only [chkT,chkI,Bool.and_eq_true,Bool.or_eq_true] at hc;exact ⟨i,t',hc.2,ha.2,ha.1,hc.1.2.1.2,hc.1.2.2,fun st h => h⟩
 | .br m i t' o,top,h,hc,ha => by
  simp only [chkT,chkI,Bool.and_eq_true,Bool.or_eq_true] at hc;simp only [OT.heads,List.mem_cons] at h
  by_cases hm : n = m
  · subst hm;exact ⟨i,t',hc.1.2,ha.2.1,ha.1,hc.1.1.2.1.2,hc.1.1.2.2,fun st h => h.1⟩
  · obtain ⟨i2,t2,h1,h2,h3,h4,h5,h6⟩ := head_find (k := k) (h.resolve_left hm) hc.2 ha.2.2;exact ⟨i2,t2,h1,h2,h3,h4,h5,fun st h => h6 st h.2⟩
theorem chk_heads {before : List (Nat × GIns K El)} {L : List Nat} : ∀ {t : OT K El},chkT ops before L [] t = true → (∀ n i t',t ≠ .q n i t') → ∀ x,x < ops.size → x ∈ L ∨ x ∈ t.heads ∨ ∃ h ∈ t.heads,h ∈ anc ops ops.size x
 | .done,hc,_,x,hx => by
  simp only [chkT,Bool.and_eq_true] at hc;have := List.all_eq_true.1 hc.2 x (by simpa using hx);exact .inl (by simpa using this)
 | .q n i t',_,hq,_,_ => absurd rfl (hq n i t')
 | .one m i t',hc,_,x,hx => by
  simp only [chkT,chkH,Bool.and_eq_true] at hc;have := List.all_eq_true.1 hc.1.1 x (by simpa using hx);simp only [List.nil_append,Bool.or_eq_true,List.any_eq_true] at this
  rcases this with (h | h) | ⟨h,h1,h2⟩
  · exact .inl (by simpa using h)
  · exact .inr (.inl (by simpa [OT.heads] using h))
  · exact .inr (.inr ⟨h,by simpa [OT.heads] using h1,by simpa using h2⟩)
 | .br m i t' o,hc,_,x,hx => by
  simp only [chkT,chkH,Bool.and_eq_true] at hc;have := List.all_eq_true.1 hc.1.1.1 x (by simpa using hx);simp only [List.nil_append,Bool.or_eq_true,List.any_eq_true] at this
  rcases this with (h | h) | ⟨h,h1,h2⟩
  · exact .inl (by simpa using h)
  · exact .inr (.inl (by simpa [OT.heads] using h))
  · exact .inr (.inr ⟨h,by simpa [OT.heads] using h1,by simpa using h2⟩)
theorem heads_new {before : List (Nat × GIns K El)} {L : List Nat} : ∀ {t : OT K El} {top : List Nat},chkT ops before L top t = true → ∀ n ∈ t.heads,n < ops.size ∧ n ∉ L
 | .done,_,_,n,h => by simp [OT.heads] at h
 | .q _ _ _,_,_,n,h => by simp [OT.heads] at h
 | .one m i t',top,hc,n,h => by
  simp only [OT.heads,List.mem_singleton] at h;subst h;simp only [chkT,chkI,Bool.and_eq_true,decide_eq_true_eq,Bool.not_eq_true'] at hc;exact ⟨hc.1.2.1.1.1,by simpa using hc.1.2.1.1.2⟩
 | .br m i t' o,top,hc,n,h => by
  simp only [chkT,chkI,Bool.and_eq_true,decide_eq_true_eq,Bool.not_eq_true'] at hc;simp only [OT.heads,List.mem_cons] at h
  rcases h with rfl | h
  · exact ⟨hc.1.1.2.1.1.1,by simpa using hc.1.1.2.1.1.2⟩
  · exact heads_new hc.2 n h
include ok in
theorem tree_sound {Q : Exit → Act → World → Prop} {k : St K El → Prop} (hlt' : ∀ n,n < ops.size → ∀ e ∈ preds ops n,e < n)
    (hn : ∀ E' st' w' a',Rel S N E0 w0 E' st' w' a' → k st' → Q .normal a' w') :
    ∀ (fuel : Nat) (listed : Array Bool),listed.size = ops.size → ((List.range ops.size).filter fun n => un_ listed n).length = fuel → (∀ n,listed.getD n false = true → ∀ e ∈ preds ops n,listed.getD e false = true) →
     ∀ (t : OT K El) (before : List (Nat × GIns K El)) (L : List Nat) {E : Env} {st : St K El} {w : World} {a : Act},(∀ n,listed.getD n false = true → n ∈ L) → (∀ n ∈ L,listed.getD n false = true ∨ n ∈ before.map (·.1)) →
     (before.map (·.1)).Nodup → (∀ x ∈ before,x.1 < ops.size ∧ x.2.p.quiet = true ∧ OpAt S N ops x.1 x.2 ∧ x.1 ∈ L) →
     before.Pairwise (fun y x => (anc ops ops.size x.1).contains y.1 = true ∨ swapB y.2 x.2 = true) → chkT ops before L [] t = true → t.All (OpAt S N ops) →
     Rel S N E0 w0 E st w a → vcL S ((before.filter fun x => un_ listed x.1).map (·.2)) st (fun st' => vcT S t st' k) → wpAny S.P .any ops Q fuel listed a w := by
 intro fuel
 induction fuel with
 | zero =>
  intro listed hsz hcnt hcl t
  have hnone : ∀ n,n < ops.size → listed.getD n false = true := by
   intro n hn';have h0 := List.eq_nil_of_length_eq_zero hcnt
   have : ¬ un_ listed n = true := fun hu => by
    have : n ∈ (List.range ops.size).filter fun n => un_ listed n := List.mem_filter.2 ⟨by simpa using hn',hu⟩;rw [h0] at this; simp at this
   rw [un_iff (by omega)] at this;exact Classical.not_not.1 this
  induction t with
  | done =>
   intro before L E st w a hL hL2 hnd hb hpw hc ha hre hv;refine ⟨?_,?_⟩
   · rw [List.eq_nil_iff_forall_not_mem];intro n hnr;obtain ⟨h1,h2,_⟩ := mem_ready'.1 hnr;have := hnone n h1;have hl : n < listed.size := by omega
     simp only [Array.getD,hl,dif_pos] at this h2;rw [this] at h2;cases h2
   · have hnil : before.filter (fun x => un_ listed x.1) = [] := by
      rw [List.filter_eq_nil_iff];intro x hx;have h1 := (hb x hx).1;have := hnone x.1 h1;intro hu;exact (un_iff (by omega)).1 hu this
     rw [hnil] at hv;exact hn _ _ _ _ hre hv
  | q n i t ih =>
   intro before L E st w a hL hL2 hnd hb hpw hc ha hre hv;exfalso;simp only [chkT,Bool.and_eq_true,decide_eq_true_eq,Bool.not_eq_true'] at hc;have h1 : n ∉ L := by simpa using hc.1.1.1.2
   exact h1 (hL n (hnone n hc.1.1.1.1.2))
  | one n i t ih =>
   intro before L E st w a hL hL2 hnd hb hpw hc ha hre hv;exfalso;have := heads_new hc n (by simp [OT.heads]);exact this.2 (hL n (hnone n this.1))
  | br n i t o ih1 ih2 =>
   intro before L E st w a hL hL2 hnd hb hpw hc ha hre hv;exfalso;have := heads_new hc n (by simp [OT.heads]);exact this.2 (hL n (hnone n this.1))
 | succ fuel ih =>
  intro listed hsz hcnt hcl
  have main : ∀ (t : OT K El) (before : List (Nat × GIns K El)) (L : List Nat) {E : Env} {st : St K El} {w : World} {a : Act},(∀ n i t',t ≠ .q n i t') → (∀ n,listed.getD n false = true → n ∈ L) → (∀ n ∈ L,listed.getD n false = true ∨ n ∈ before.map (·.1)) →
      (before.map (·.1)).Nodup → (∀ x ∈ before,x.1 < ops.size ∧ x.2.p.quiet = true ∧ OpAt S N ops x.1 x.2 ∧ x.1 ∈ L) →
      before.Pairwise (fun y x => (anc ops ops.size x.1).contains y.1 = true ∨ swapB y.2 x.2 = true) → chkT ops before L [] t = true → t.All (OpAt S N ops) →
      Rel S N E0 w0 E st w a → vcL S ((before.filter fun x => un_ listed x.1).map (·.2)) st (fun st' => vcT S t st' k) → wpAny S.P .any ops Q (fuel + 1) listed a w := by
   intro t before L E st w a hnq hL hL2 hnd hb hpw hc ha hre hv;have hun : ∀ y : Nat,y < ops.size → (un_ listed y = true ↔ ¬ listed.getD y false = true) := fun y hy => un_iff (by omega);refine ⟨fun h0 => ?_,fun n hnr => ?_⟩
   · exfalso
     obtain ⟨x,hx⟩ : ∃ x,x ∈ (List.range ops.size).filter fun n => un_ listed n := by
      cases hq : (List.range ops.size).filter fun n => un_ listed n with
      | nil => rw [hq] at hcnt; simp at hcnt
      | cons x l => exact ⟨x,by simp⟩
     obtain ⟨hx1,hx2⟩ := List.mem_filter.1 hx;exact some_ready hlt' hsz x (by simpa using hx1) (by simpa [un_] using hx2) h0
   · obtain ⟨h1,h2,h3⟩ := mem_ready'.1 hnr;have hnu : un_ listed n = true := by unfold un_; rw [h2]; rfl
     have hnl : ¬ listed.getD n false = true := (hun n h1).1 hnu
     have hset : ∀ m,m ≠ n → un_ (listed.setIfInBounds n true) m = un_ listed m := by
      intro m hm;simp only [un_,Array.getD_eq_getD_getElem?];rw [Array.getElem?_setIfInBounds_ne (fun e => hm e.symm)]
     have hself : un_ (listed.setIfInBounds n true) n = false := by
      have : n < listed.size := by omega
      simp [un_,Array.getD,this]
     have hcnt' : ((List.range ops.size).filter fun m => un_ (listed.setIfInBounds n true) m).length = fuel := by
      have key : ∀ (l : List Nat),l.Nodup → n ∈ l → (l.filter fun m => un_ listed m).length = (l.filter fun m => un_ (listed.setIfInBounds n true) m).length + 1 := by
       intro l
       induction l with
       | nil => intro _ h; simp at h
       | cons x l ihl =>
        intro hnd' hm;obtain ⟨hx1,hx2⟩ := List.nodup_cons.1 hnd'
        by_cases hxn : x = n
        · subst hxn;rw [List.filter_cons_of_pos (by simpa using hnu),List.filter_cons_of_neg (by simp [hself])];have : l.filter (fun m => un_ listed m) = l.filter fun m => un_ (listed.setIfInBounds x true) m := List.filter_congr fun m hm' => (hset m fun e => hx1 (e ▸ hm')).symm;rw [this]; rfl
        · have hm2 : n ∈ l := by
           rcases List.mem_cons.1 hm with h | h
           · exact absurd h.symm hxn
           · exact h
          have := ihl hx2 hm2
          by_cases hu : un_ listed x = true
          · rw [List.filter_cons_of_pos (by simpa using hu),List.filter_cons_of_pos (by simpa [hset x hxn] using hu)];simp [this]
          · rw [List.filter_cons_of_neg (by simpa using hu),List.filter_cons_of_neg (by simpa [hset x hxn] using hu)];exact this
      have := key (List.range ops.size) List.nodup_range (by simpa using h1);omega
     have hcl' : ∀ m,(listed.setIfInBounds n true).getD m false = true → ∀ e ∈ preds ops m,(listed.setIfInBounds n true).getD e false = true := by
      intro m hm e he
      by_cases hmx : m = n
      · subst hmx; exact getD_set_true (h3 e he)
      · refine getD_set_true (hcl m ?_ e he)
        rwa [getD_set_ne false (fun e => hmx e.symm)] at hm
     have hmine : (listed.setIfInBounds n true).getD n false = true := by
      have : n < listed.size := by omega
      simp [Array.getD,this]
     have front : ∀ (l1 l2 : List (Nat × GIns K El)) (i : GIns K El) (K' : St K El → Prop),(∀ y ∈ l1,y ∈ before) → (∀ y ∈ l1,(anc ops ops.size n).contains y.1 = true ∨ swapB y.2 i = true) →
         (i.p.quiet = true ∨ ((l1.filter fun x => un_ listed x.1).map (·.2)).Pairwise fun y z => ∀ s ∈ y.uses,z.d ≠ some s) →
         vcL S ((l1.filter fun x => un_ listed x.1).map (·.2) ++ i :: (l2.filter fun x => un_ listed x.1).map (·.2)) st K' →
         ({ i with av := drops ((l1.filter fun x => un_ listed x.1).map (·.2)) i.av } : GIns K El).vc S st fun st' => vcL S ((l1.filter fun x => un_ listed x.1).map (·.2) ++ (l2.filter fun x => un_ listed x.1).map (·.2)) st' K' := by
      intro l1 l2 i K' hsub hsw hq hvv;refine vcL_front _ (fun j hj => ?_) hq hvv;obtain ⟨y,hy,rfl⟩ := List.mem_map.1 hj;obtain ⟨hy1,hy2⟩ := List.mem_filter.1 hy
      rcases hsw y hy1 with hq | hq
      · exfalso;have := anc_listed hcl ops.size n h3 y.1 (by simpa using hq);exact (hun y.1 (hb y (hsub y hy1)).1).1 (by simpa using hy2) this
      · exact swapB_spec hq
     by_cases hmem : n ∈ before.map (·.1)
     · obtain ⟨x,hx,rfl⟩ := List.mem_map.1 hmem;obtain ⟨l1,l2,rfl⟩ := List.append_of_mem hx;have hfx : (x :: l2).filter (fun x => un_ listed x.1) = x :: l2.filter (fun x => un_ listed x.1) := by simp [hnu]
       rw [List.filter_append,hfx,List.map_append,List.map_cons] at hv;obtain ⟨hx1,hx2,⟨o,i0,ho,hi,hie⟩,hx4⟩ := hb x hx;have hpx := (List.pairwise_append.1 hpw).2.2;have hfront := front l1 l2 x.2 _ (fun y hy => by simp [hy]) (fun y hy => hpx y hy x (by simp)) (.inl hx2) hv
       have hne : ∀ y,y ∈ l1 ∨ y ∈ l2 → y.1 ≠ x.1 := by
        intro y hy he;rw [List.map_append,List.map_cons,List.nodup_append] at hnd;obtain ⟨_,hnd2,hdis⟩ := hnd
        rcases hy with hy | hy
        · exact hdis y.1 (List.mem_map.2 ⟨y,hy,rfl⟩) x.1 (by simp) he
        · exact (List.nodup_cons.1 hnd2).1 (he ▸ List.mem_map.2 ⟨y,hy,rfl⟩)
       have hrem' : (l1 ++ x :: l2).filter (fun y => un_ (listed.setIfInBounds x.1 true) y.1) = l1.filter (fun y => un_ listed y.1) ++ l2.filter (fun y => un_ listed y.1) := by
        rw [List.filter_append,List.filter_cons_of_neg (by simp [hself])]
        congr 1
        · exact List.filter_congr fun y hy => hset y.1 (hne y (.inl hy))
        · exact List.filter_congr fun y hy => hset y.1 (hne y (.inr hy))
       have hgo := ins_sound ok hi (av := drops ((l1.filter fun x => un_ listed x.1).map (·.2)) x.2.av) hre (next := wpAny S.P .any ops Q fuel (listed.setIfInBounds x.1 true)) (Q := Q) (by rw [hie] at hfront; exact hfront) fun E' st' w' a' hr hk => by
        refine ih (listed.setIfInBounds x.1 true) (by simpa using hsz) hcnt' hcl' t (l1 ++ x :: l2) L (fun m hm => ?_) (fun m hm => ?_) hnd hb hpw hc ha hr ?_
        · by_cases hmx : m = x.1
          · subst hmx; exact hx4
          · rw [getD_set_ne false (fun e => hmx e.symm)] at hm; exact hL m hm
        · rcases hL2 m hm with h | h
          · exact .inl (getD_set_true h)
          · exact .inr h
        · rw [hrem',List.map_append]; exact hk
       unfold wpOp;rw [ho];exact hgo
     · have hnL : n ∉ L := fun h => (hL2 n h).elim (fun h => hnl h) hmem
       have hhead : n ∈ t.heads := by
        rcases chk_heads hc hnq n h1 with h | h | ⟨m,hm1,hm2⟩
        · exact absurd h hnL
        · exact h
        · have h4 := heads_new hc m hm1;exact absurd (hL m (anc_listed hcl ops.size n h3 m hm2)) h4.2
       obtain ⟨i,t',hc',ha',⟨o,i0,ho,hi,hie⟩,haft,hch,hvt⟩ := head_find (S := S) (k := k) hhead hc ha
       have hv2 : vcL S ((before.filter fun x => un_ listed x.1).map (·.2) ++ i :: (([] : List (Nat × GIns K El)).filter fun x => un_ listed x.1).map (·.2)) st (fun st' => vcT S t' st' k) :=
        (vcL_append _ _ _ _).2 (vcL_mono hv fun st' h => hvt st' h)
       have hsw : ∀ y ∈ before,(anc ops ops.size n).contains y.1 = true ∨ swapB y.2 i = true := fun y hy => by
        have := List.all_eq_true.1 haft y hy;simpa [Bool.or_eq_true] using this
       have hpr : i.p.quiet = true ∨ ((before.filter fun x => un_ listed x.1).map (·.2)).Pairwise fun y z => ∀ s ∈ y.uses,z.d ≠ some s := by
        refine hch.imp id fun hch => ?_;refine (chainB_spec hch).sublist (List.Sublist.map _ ?_)
        have he : before.filter (fun y => un_ listed y.1) = (loose ops n before).filter (fun y => un_ listed y.1) := by
         unfold loose;rw [List.filter_filter];refine List.filter_congr fun y hy => ?_
         cases hu : un_ listed y.1 with
         | false => simp
         | true =>
          cases hq : (anc ops ops.size n).contains y.1 with
          | false => simp
          | true =>
           exfalso;have := anc_listed hcl ops.size n h3 y.1 (by simpa using hq);exact (hun y.1 (hb y hy).1).1 hu this
        rw [he];simp
       have hfront := front before [] i _ (fun y hy => hy) hsw hpr hv2
       have hrem' : before.filter (fun y => un_ (listed.setIfInBounds n true) y.1) = before.filter (fun y => un_ listed y.1) :=
        List.filter_congr fun y hy => hset y.1 fun e => hmem (e ▸ List.mem_map.2 ⟨y,hy,rfl⟩)
       have hgo := ins_sound ok hi (av := drops ((before.filter fun x => un_ listed x.1).map (·.2)) i.av) hre (next := wpAny S.P .any ops Q fuel (listed.setIfInBounds n true)) (Q := Q) (by rw [hie] at hfront; exact hfront) fun E' st' w' a' hr hk => by
        refine ih (listed.setIfInBounds n true) (by simpa using hsz) hcnt' hcl' t' before (n :: L) (fun m hm => ?_) (fun m hm => ?_) hnd (fun x hx => ⟨(hb x hx).1,(hb x hx).2.1,(hb x hx).2.2.1,List.mem_cons_of_mem _ (hb x hx).2.2.2⟩) hpw hc' ha' hr ?_
        · by_cases hmx : m = n
          · subst hmx; simp
          · rw [getD_set_ne false (fun e => hmx e.symm)] at hm; exact List.mem_cons_of_mem _ (hL m hm)
        · rcases List.mem_cons.1 hm with rfl | hm
          · exact .inl hmine
          · rcases hL2 m hm with h | h
            · exact .inl (getD_set_true h)
            · exact .inr h
        · rw [hrem']; simpa using hk
       unfold wpOp;rw [ho];exact hgo
  intro t
  induction t with
  | q n i t iht =>
   intro before L E st w a hL hL2 hnd hb hpw hc ha hre hv;simp only [chkT,Bool.and_eq_true,decide_eq_true_eq,Bool.not_eq_true'] at hc;have hn1 : n ∉ L := by simpa using hc.1.1.1.2
   have hnl : ¬ listed.getD n false = true := fun h => hn1 (hL n h)
   have hnb : n ∉ before.map (·.1) := fun h => by
    obtain ⟨x,hx,rfl⟩ := List.mem_map.1 h;exact hn1 (hb x hx).2.2.2
   have hnu : un_ listed n = true := (un_iff (by rw [hsz]; exact hc.1.1.1.1.2)).2 hnl;refine iht (before ++ [(n,i)]) (n :: L) (fun m hm => List.mem_cons_of_mem _ (hL m hm)) (fun m hm => ?_) ?_ (fun x hx => ?_) ?_ hc.2 ha.2 hre ?_
   · rcases List.mem_cons.1 hm with rfl | hm
     · exact .inr (by simp)
     · exact (hL2 m hm).imp id fun h => by rw [List.map_append]; exact List.mem_append_left _ h
   · rw [List.map_append,List.nodup_append];refine ⟨hnd,by simp,fun x hx y hy => ?_⟩;simp only [List.map_cons,List.map_nil,List.mem_singleton] at hy;subst hy;exact fun e => hnb (e ▸ hx)
   · rcases List.mem_append.1 hx with hx | hx
     · exact ⟨(hb x hx).1,(hb x hx).2.1,(hb x hx).2.2.1,List.mem_cons_of_mem _ (hb x hx).2.2.2⟩
     · simp only [List.mem_singleton] at hx;subst hx;exact ⟨hc.1.1.1.1.2,hc.1.1.2,ha.1,by simp⟩
   · rw [List.pairwise_append];refine ⟨hpw,by simp,fun y hy x hx => ?_⟩;simp only [List.mem_singleton] at hx;subst hx;have := List.all_eq_true.1 hc.1.2 y hy;simpa [Bool.or_eq_true] using this
   · rw [List.filter_append,List.map_append,vcL_append];refine vcL_mono hv fun st' h => ?_;rw [List.filter_cons_of_pos (by simpa using hnu)];exact h
  | done => intro before L E st w a; exact main _ before L (by intros; simp)
  | one n i t _ => intro before L E st w a; exact main _ before L (by intros; simp)
  | br n i t o _ _ => intro before L E st w a; exact main _ before L (by intros; simp)
end
end Sh
end Go.Proofs.YtomdfaelgcefdaaGreatDoor
