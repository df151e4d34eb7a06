/- The shadow machine, part 16: a region whose order Go leaves open. -/
import Derived.Test.YtomdfaelgcefdaaGreatDoorSh15
namespace Go.Proofs.YtomdfaelgcefdaaGreatDoor
open Go
namespace Sh
variable {K : Type} {El : K → Type} {S : Seat K El}

def AV.noref : AV K El → Bool
  | .ptr _ _ | .eptr _ _ _ _ | .own _ _ _ _ _ | .mp _ | .clo _ _ => false
  | _ => true

def GIns.plainC (i : GIns K El) : Bool := i.xs.all fun
  | .const c => c.noref
  | .tmp _ => true

theorem sameAt_noref {c : AV K El} (h : c.noref = true) (H H' : Heap K El) : sameAt c H H' := by
  cases c <;> first | trivial | simp [AV.noref] at h

theorem plainC_same {i : GIns K El} (h : i.plainC = true) : ∀ c, Opd.const c ∈ i.xs → ∀ H H' : Heap K El, sameAt c H H' :=
  fun _ hc H H' => sameAt_noref (List.all_eq_true.1 h _ hc) H H'

theorem mem_uses {i : GIns K El} {x : Nat} (h : x ∈ i.xs.flatMap Opd.slot) : x ∈ i.uses := by
  unfold GIns.uses; exact List.mem_append_right _ h

theorem guard_uses {i : GIns K El} {s : Nat} {b : Bool} (h : i.g = some (s, b)) : s ∈ i.uses := by
  unfold GIns.uses; simp [h]

structure Swap (j i : GIns K El) : Prop where
  q : j.p.quiet = true
  jav : j.av = []
  jd_i : ∀ x, j.d = some x → x ∉ i.uses
  jd_id : ∀ x, j.d = some x → i.d ≠ some x
  jd_j : ∀ x, j.d = some x → x ∉ j.uses
  id_j : ∀ x, i.d = some x → x ∉ j.uses
  av : i.p.quiet = true ∨ ∀ s ∈ j.uses, s ∈ i.av

/-- Without a slot. -/
def dropd (d : Option Nat) (av : List Nat) : List Nat := match d with
  | some d => av.filter fun s => !(s == d)
  | none => av

theorem avOK_dropd : ∀ {av : List Nat} {fr : Nat → AV K El} {d : Option Nat} {v : AV K El} {H H' : Heap K El}, avOK av (upd fr d v) H H' → avOK (dropd d av) fr H H'
  | av, fr, none, v, H, H', h => h
  | [], fr, some d, v, H, H', _ => trivial
  | b :: r, fr, some d, v, H, H', h => by
    have ih : avOK (dropd (some d) r) fr H H' := avOK_dropd h.2
    simp only [dropd, List.filter_cons]
    by_cases hb : b = d
    · subst hb; simpa [dropd] using ih
    · have : (b == d) = false := by simpa using hb
      rw [this]
      have h1 : sameAt (upd fr (some d) v b) H H' := h.1
      simp only [upd, if_neg hb] at h1
      exact ⟨h1, ih⟩

theorem mem_dropd {d : Option Nat} {av : List Nat} {s : Nat} (h : s ∈ av) (hd : d ≠ some s) : s ∈ dropd d av := by
  cases d with
  | none => exact h
  | some d => exact List.mem_filter.2 ⟨h, by simpa using fun e : s = d => hd (by rw [e])⟩

theorem getD_upd {fr : Nat → AV K El} {d : Option Nat} {v : AV K El} {s : Nat} (h : ∀ x, d = some x → x ≠ s) : upd fr d v s = fr s := by
  cases d with
  | none => rfl
  | some d => simp [upd, Ne.symm (h d rfl)]

theorem sameIs_refl (H : Heap K El) : ∀ is, sameIs H H is
  | [] => trivial
  | none :: r => sameIs_refl H r
  | some _ :: r => ⟨rfl, sameIs_refl H r⟩

theorem sameAt_refl (v : AV K El) (H : Heap K El) : sameAt v H H := by cases v <;> first | exact sameIs_refl _ _ | simp [sameAt]

theorem vc_none {i : GIns K El} (hg : i.g = none) (st : St K El) (k : St K El → Prop) : i.vc S st k = i.run S st k := by simp only [GIns.vc, hg]
theorem vc_some {i : GIns K El} {s : Nat} {want : Bool} (hg : i.g = some (s, want)) (st : St K El) (k : St K El → Prop) : i.vc S st k = onO (gate (st.fr s) want) fun b => cas b (i.run S st k) (i.skip st k) := by simp only [GIns.vc, hg]

theorem onO_some {o : Option Bool} {k : Bool → Prop} (h : onO o k) : ∃ b, o = some b ∧ k b := by
  cases o <;> first | exact h.elim | exact ⟨_, rfl, h⟩

theorem onB_some {v : AV K El} {k : Bool → Prop} (h : onB v k) : ∃ b, v = .bool b ∧ k b := by
  cases v <;> first | exact h.elim | exact ⟨_, rfl, h⟩

theorem swap_ins {j i : GIns K El} (hs : Swap j i) (hj : j.plainC = true) {st : St K El} {k : St K El → Prop} (h : j.vc S st fun st' => i.vc S st' k) : ({ i with av := dropd j.d i.av } : GIns K El).vc S st fun st' => j.vc S st' k := by
  -- what j does
  have hjrun : ∀ {kk : St K El → Prop}, j.run S st kk → ∃ r, kk ⟨upd st.fr j.d r, st.H⟩ ∧ ∀ (fr : Nat → AV K El) (H' : Heap K El) (k' : St K El → Prop), (∀ s ∈ j.uses, fr s = st.fr s) → (∀ s ∈ j.uses, sameAt (st.fr s) st.H H') → k' ⟨upd fr j.d r, H'⟩ → j.run S ⟨fr, H'⟩ k' := by
    intro kk hr
    unfold GIns.run at hr
    obtain ⟨r, h1, h2⟩ := G_quiet hs.q hr
    refine ⟨r, h1.2, fun fr H' k' hfr hsame hk => ?_⟩
    unfold GIns.run
    have hxs : j.xs.map (opdV fr) = j.xs.map (opdV st.fr) := List.map_congr_left fun x hx => by
      cases x with
      | const c => rfl
      | tmp t => exact hfr t (mem_uses (List.mem_flatMap.2 ⟨_, hx, by simp [Opd.slot]⟩))
    simp only [hxs]
    refine h2 H' _ (sameAt_const (plainC_same hj) fun s hsu => hsame s (mem_uses hsu)) ⟨?_, hk⟩
    rw [hs.jav]; trivial
  -- j as one step: a value, or a skip
  have hjstep : ∃ r, (i.vc S ⟨upd st.fr j.d r, st.H⟩ k) ∧ ∀ (fr : Nat → AV K El) (H' : Heap K El) (k' : St K El → Prop), (∀ s ∈ j.uses, fr s = st.fr s) → (∀ s ∈ j.uses, sameAt (st.fr s) st.H H') → k' ⟨upd fr j.d r, H'⟩ → j.vc S ⟨fr, H'⟩ k' := by
    cases hg : j.g with
    | none =>
      rw [vc_none hg] at h
      obtain ⟨r, h1, h2⟩ := hjrun h
      exact ⟨r, h1, fun fr H' k' a b c => by rw [vc_none hg]; exact h2 fr H' k' a b c⟩
    | some sw =>
      obtain ⟨s, want⟩ := sw
      rw [vc_some hg] at h
      obtain ⟨b, hb, h⟩ := onO_some h
      rw [cas_iff] at h
      cases hbw : b with
      | true =>
        obtain ⟨r, h1, h2⟩ := hjrun (h.1 hbw)
        refine ⟨r, h1, fun fr H' k' a b' c => ?_⟩
        rw [vc_some hg]
        simp only [a s (guard_uses hg), hb, onO, cas_iff]
        exact ⟨fun _ => h2 fr H' k' a b' c, fun hf => by rw [hbw] at hf; cases hf⟩
      | false =>
        refine ⟨.tup [], h.2 hbw, fun fr H' k' a b' c => ?_⟩
        rw [vc_some hg]
        simp only [a s (guard_uses hg), hb, onO, cas_iff]
        exact ⟨fun hf => (by rw [hbw] at hf; cases hf), fun _ => c⟩
  obtain ⟨r, hi, hback⟩ := hjstep
  -- i runs as it would have
  have hirun : i.run S ⟨upd st.fr j.d r, st.H⟩ k → ({ i with av := dropd j.d i.av } : GIns K El).run S st fun st' => j.vc S st' k := by
    intro hr
    unfold GIns.run at hr ⊢
    have hxs : i.xs.map (opdV (upd st.fr j.d r)) = i.xs.map (opdV st.fr) := opdV_upd fun x hx hm => hs.jd_i x hx (mem_uses hm)
    simp only [hxs] at hr
    have fin : ∀ (ri : AV K El) (H2 : Heap K El), avOK i.av (upd st.fr j.d r) st.H H2 → (∀ s ∈ j.uses, sameAt (st.fr s) st.H H2) → k ⟨upd (upd st.fr j.d r) i.d ri, H2⟩ → avOK (dropd j.d i.av) st.fr st.H H2 ∧ j.vc S ⟨upd st.fr i.d ri, H2⟩ k := by
      intro ri H2 hav hsame hk
      refine ⟨avOK_dropd hav, ?_⟩
      refine hback _ _ _ (fun s hsu => getD_upd fun x hx e => hs.id_j x hx (e ▸ hsu)) hsame ?_
      rw [upd_comm (fun x hx => hs.jd_id x hx)] at hk
      exact hk
    rcases hs.av with hq | hav
    · obtain ⟨ri, h1, h2⟩ := G_quiet hq hr
      exact h2 st.H _ (fun v _ => sameAt_refl _ _) (fin ri st.H h1.1 (fun s _ => sameAt_refl _ _) h1.2)
    · refine G_mono hr fun ri H2 h2 => fin ri H2 h2.1 (fun s hsu => ?_) h2.2
      have := avOK_mem h2.1 s (hav s hsu)
      rwa [getD_upd fun x hx e => hs.jd_j x hx (e ▸ hsu)] at this
  cases hg : i.g with
  | none =>
    rw [vc_none hg] at hi
    rw [vc_none rfl]
    exact hirun hi
  | some sw =>
    obtain ⟨s, want⟩ := sw
    rw [vc_some hg] at hi
    rw [vc_some rfl]
    have hsu : upd st.fr j.d r s = st.fr s := getD_upd fun x hx e => hs.jd_i x hx (e ▸ guard_uses hg)
    simp only [hsu] at hi
    obtain ⟨b, hb, hi⟩ := onO_some hi
    rw [hb]
    simp only [onO, cas_iff] at hi ⊢
    refine ⟨fun hbw => hirun (hi.1 hbw), fun hbw => ?_⟩
    have := hi.2 hbw
    unfold GIns.skip at this ⊢
    refine hback _ _ _ (fun s hsu => getD_upd fun x hx e => hs.id_j x hx (e ▸ hsu)) (fun s _ => sameAt_refl _ _) ?_
    simp only [] at this
    rw [upd_comm (fun x hx => hs.jd_id x hx)] at this
    exact this

theorem vcL_append : ∀ (l1 l2 : List (GIns K El)) (st : St K El) (k : St K El → Prop), vcL S (l1 ++ l2) st k ↔ vcL S l1 st fun st' => vcL S l2 st' k
  | [], _, _, _ => Iff.rfl
  | i :: l1, l2, st, k => by
    simp only [List.cons_append, vcL]
    constructor
    · intro h; exact GIns.vc_mono h fun st' h' => (vcL_append l1 l2 st' k).1 h'
    · intro h; exact GIns.vc_mono h fun st' h' => (vcL_append l1 l2 st' k).2 h'

def drops : List (GIns K El) → List Nat → List Nat
  | [], av => av
  | j :: l, av => dropd j.d (drops l av)

theorem mem_drops {s : Nat} : ∀ {l : List (GIns K El)} {av : List Nat}, s ∈ av → (∀ j ∈ l, j.d ≠ some s) → s ∈ drops l av
  | [], _, h, _ => h
  | j :: l, _, h, hd => mem_dropd (mem_drops (l := l) h fun j' hj' => hd j' (List.mem_cons_of_mem _ hj')) (hd j (by simp))

/-- An operation that may go first goes first. -/
theorem vcL_front {i : GIns K El} {l2 : List (GIns K El)} : ∀ (l1 : List (GIns K El)) {st : St K El} {k : St K El → Prop}, (∀ j ∈ l1, Swap j i ∧ j.plainC = true) → (i.p.quiet = true ∨ l1.Pairwise fun y z => ∀ s ∈ y.uses, z.d ≠ some s) →
    vcL S (l1 ++ i :: l2) st k → ({ i with av := drops l1 i.av } : GIns K El).vc S st fun st' => vcL S (l1 ++ l2) st' k
  | [], _, _, _, _, h => h
  | j :: l1, st, k, hl, hp, h => by
    simp only [List.cons_append, vcL] at h
    have h1 : j.vc S st fun st' => ({ i with av := drops l1 i.av } : GIns K El).vc S st' fun st'' => vcL S (l1 ++ l2) st'' k :=
      GIns.vc_mono h fun st' h' => vcL_front l1 (fun j hj => hl j (List.mem_cons_of_mem _ hj)) (hp.imp id fun h => (List.pairwise_cons.1 h).2) h'
    have hs := (hl j (by simp)).1
    have hs' : Swap j { i with av := drops l1 i.av } := ⟨hs.q, hs.jav, hs.jd_i, hs.jd_id, hs.jd_j, hs.id_j, by
      rcases hp with hq | hp
      · exact .inl hq
      · rcases hs.av with hq | hav
        · exact .inl hq
        · exact .inr fun s hsu => mem_drops (hav s hsu) fun j' hj' => (List.pairwise_cons.1 hp).1 j' hj' s hsu⟩
    have := swap_ins hs' (hl j (by simp)).2 h1
    exact GIns.vc_mono this fun st' h' => h'

end Sh
end Go.Proofs.YtomdfaelgcefdaaGreatDoor
