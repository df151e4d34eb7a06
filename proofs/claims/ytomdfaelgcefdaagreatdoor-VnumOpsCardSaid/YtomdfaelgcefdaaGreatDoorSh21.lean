/- The shadow machine, part 21: contracts that tell all, and the ends of proofs by evaluation. -/
import Derived.Test.YtomdfaelgcefdaaGreatDoorSh20
namespace Go.Proofs.YtomdfaelgcefdaaGreatDoor
open Go
namespace Sh
variable {K : Type} {El : K → Type} {S : Seat K El}

theorem ok1_nil (H : Heap K El) (ids : List Nat) (v : AV K El) : ok1 H ids [] v := by
  unfold ok1
  split
  · split
    · trivial
    · simp
  · split
    · trivial
    · simp
  · trivial

theorem okL_nil (H : Heap K El) (ids : List Nat) : ∀ (vs : List (AV K El)), okL H ids [] vs
  | [] => trivial
  | v :: vs => ⟨ok1_nil H ids v, okL_nil H ids vs⟩

theorem ok2_nil (H : Heap K El) (ids : List Nat) (v : AV K El) : ok2 H ids [] v := by
  unfold ok2
  split
  · exact okL_nil H ids _
  · exact ok1_nil H ids _

theorem okT_nil (H : Heap K El) (ids : List Nat) : ∀ (vs : List (AV K El)), okT H ids [] vs
  | [] => trivial
  | v :: vs => ⟨ok2_nil H ids v, okT_nil H ids vs⟩

theorem okV_nil (H : Heap K El) (ids : List Nat) (v : AV K El) : okV H ids [] v := by
  unfold okV
  split
  · exact okT_nil H ids _
  · exact ok2_nil H ids _

theorem okO_nil (H : Heap K El) (ids : List Nat) (o : AO K El) : okO H ids [] o := by
  unfold okO
  split
  · exact okL_nil H ids _
  · exact okL_nil H ids _
  · trivial

theorem okH_nil (H : Heap K El) (ids : List Nat) : ∀ (l : List Nat), okH H ids [] l
  | [] => trivial
  | _ :: r => ⟨okO_nil H ids _, okH_nil H ids r⟩

theorem okF_nil (H : Heap K El) (ids : List Nat) (fr : Nat → AV K El) : ∀ (ks : List Nat), okF H ids [] fr ks
  | [] => trivial
  | _ :: r => ⟨okV_nil H ids _, okF_nil H ids fr r⟩

/-- The result, and the heap behind it, as told. -/
def Is (r : AV K El) (H : Heap K El) : AV K El → Heap K El → Prop := fun r' H' => r' = r ∧ H' = H

abbrev SpecD (S : Seat K El) (f : Nat) (vs : List (AV K El)) (H : Heap K El) (r : AV K El) (H' : Heap K El) : Prop := Spec S f vs H (Is r H')

def natsB (n : Nat) (ids : List Nat) : Bool := nodupB ids && ids.all fun i => leB (i + 1) n
  where
  nodupB : List Nat → Bool
    | [] => true
    | i :: l => !(l.any fun j => Nat.beq j i) && nodupB l

theorem nodupB_iff : ∀ {l : List Nat}, natsB.nodupB l = true → l.Nodup
  | [], _ => List.nodup_nil
  | i :: l, h => by
    simp only [natsB.nodupB, Bool.and_eq_true, Bool.not_eq_true', List.any_eq_false] at h
    refine List.nodup_cons.2 ⟨fun hi => h.1 i hi ?_, nodupB_iff h.2⟩
    simp

theorem natsB_iff {n : Nat} {ids : List Nat} (h : natsB n ids = true) : ids.Nodup ∧ ∀ i ∈ ids, i < n := by
  simp only [natsB, Bool.and_eq_true] at h
  exact ⟨nodupB_iff h.1, fun i hi => leB_iff.1 (List.all_eq_true.1 h.2 i hi)⟩

theorem relo_of {n0 : Nat} {fr : Fr K El} {H : Heap K El} {ks : List Nat} (ids : List Nat) (h : natsB H.length ids = true) (h0 : ids.take n0 = List.range n0) : OkRelo n0 ⟨ofL fr, H⟩ ids [] ks :=
  ⟨(natsB_iff h).1, (natsB_iff h).2, h0, okH_nil _ _ _, okF_nil _ _ _ _⟩

theorem end_of {n0 : Nat} {fr : Fr K El} {H : Heap K El} {vs : List (AV K El)} {R : AV K El → Heap K El → Prop} (ids : List Nat) (h : natsB H.length ids = true) (h0 : ids.take n0 = List.range n0) (ht : vs.all AV.ntup = true)
    (hR : R (loc H ids [] (oneOr vs)) (locH H ids [])) : EndP n0 fr H vs R :=
  ⟨⟨[], _, _, rfl, ids, [], relo_of ids h h0, okV_nil _ _ _, by rw [tab_entry]; exact ht, by rw [tab_entry]; exact hR⟩⟩

/-- An end at which nil slices, of the results or in cells, are seen as owned ones. -/
theorem endG_of {n0 : Nat} {fr fr' : Fr K El} {H H' : Heap K El} {vs : List (AV K El)} {R : AV K El → Heap K El → Prop} (gs : List (GStep K)) (ids : List Nat) (hg : ghE gs (entryE 0 vs) H = some (fr', H')) (h : natsB H'.length ids = true)
    (h0 : ids.take n0 = List.range n0) (ht : (looks fr' (List.range vs.length)).all AV.ntup = true) (hR : R (loc H' ids [] (oneOr (looks fr' (List.range vs.length)))) (locH H' ids [])) : EndP n0 fr H vs R := by
  have he : looks fr' (List.range vs.length) = tabF vs.length (ofL fr') := by rw [looks_eq]; rfl
  rw [he] at ht hR
  exact ⟨⟨gs, _, _, hg, ids, [], relo_of ids h h0, okV_nil _ _ _, ht, hR⟩⟩

/-- A loop: nil slices seen as owned ones first; then the objects that it has. -/
theorem loop_of {n0 : Nat} {ks : List Nat} {fr fr' : Fr K El} {H H' : Heap K El} {Body : List (AV K El) → Heap K El → (Fr K El → Heap K El → Prop) → Prop} (gs : List (GStep K)) (ids : List Nat)
    (Inv : List (AV K El) → Heap K El → Prop) (μ : List (AV K El) → Heap K El → Nat) (hn : natsB.nodupB ks = true) (hg : ghE gs fr H = some (fr', H')) (h : natsB H'.length ids = true) (h0 : ids.take n0 = List.range n0)
    (hi : Inv ((looks fr' ks).map (loc H' ids [])) (locH H' ids []))
    (hb : ∀ vs H1, Inv vs H1 → Body vs H1 fun fr2 H2 => ∃ ids lent, OkRelo n0 ⟨ofL fr2, H2⟩ ids lent ks ∧ Inv ((looks fr2 ks).map (loc H2 ids lent)) (locH H2 ids lent) ∧ μ ((looks fr2 ks).map (loc H2 ids lent)) (locH H2 ids lent) < μ vs H1) : LoopP S n0 ks fr H Body :=
  ⟨.inl ⟨Inv, μ, nodupB_iff hn, ⟨gs, _, _, hg, ids, [], relo_of ids h h0, hi⟩, fun vs H1 _ hv => hb vs H1 hv⟩⟩

/-- A loop whose rows may be told element by element: `lent` objects become plain data. -/
theorem loopX_of {n0 : Nat} {ks : List Nat} {fr fr' : Fr K El} {H H' : Heap K El} {Body : List (AV K El) → Heap K El → (Fr K El → Heap K El → Prop) → Prop} (gs : List (GStep K)) (ids lent : List Nat) {H3 : Heap K El}
    (Inv : List (AV K El) → Heap K El → Prop) (μ : List (AV K El) → Heap K El → Nat) (hn : natsB.nodupB ks = true) (hg : ghE gs fr H = some (fr', H')) (ho : OkRelo n0 ⟨ofL fr', H'⟩ ids lent ks) (hx : HGh S (locH H' ids lent) H3)
    (hi : Inv ((looks fr' ks).map (loc H' ids lent)) H3)
    (hb : ∀ vs H1, Inv vs H1 → Body vs H1 fun fr2 H2 => ∃ ids lent, OkRelo n0 ⟨ofL fr2, H2⟩ ids lent ks ∧ ∃ H3, HGh S (locH H2 ids lent) H3 ∧ Inv ((looks fr2 ks).map (loc H2 ids lent)) H3 ∧ μ ((looks fr2 ks).map (loc H2 ids lent)) H3 < μ vs H1) : LoopP S n0 ks fr H Body :=
  ⟨.inr ⟨Inv, μ, nodupB_iff hn, ⟨gs, _, _, hg, ids, lent, ho, H3, hx, hi⟩, fun vs H1 _ hv => hb vs H1 hv⟩⟩

theorem again_of {n0 : Nat} {ks : List Nat} {fr2 : Fr K El} {H2 : Heap K El} {Inv : List (AV K El) → Heap K El → Prop} {μ : List (AV K El) → Heap K El → Nat} {m : Nat} (ids : List Nat) (h : natsB H2.length ids = true) (h0 : ids.take n0 = List.range n0)
    (hi : Inv ((looks fr2 ks).map (loc H2 ids [])) (locH H2 ids [])) (hm : μ ((looks fr2 ks).map (loc H2 ids [])) (locH H2 ids []) < m) :
    ∃ ids lent, OkRelo n0 ⟨ofL fr2, H2⟩ ids lent ks ∧ Inv ((looks fr2 ks).map (loc H2 ids lent)) (locH H2 ids lent) ∧ μ ((looks fr2 ks).map (loc H2 ids lent)) (locH H2 ids lent) < m :=
  ⟨ids, [], relo_of ids h h0, hi, hm⟩

theorem reloL_of {n0 : Nat} {fr : Fr K El} {H : Heap K El} {ks : List Nat} (ids lent : List Nat) (h : natsB H.length ids = true) (h0 : ids.take n0 = List.range n0) (h1 : okH H ids lent ids) (h2 : okF H ids lent (ofL fr) ks) : OkRelo n0 ⟨ofL fr, H⟩ ids lent ks :=
  ⟨(natsB_iff h).1, (natsB_iff h).2, h0, h1, h2⟩

/-- An end at which the objects `lent` become plain data. -/
theorem endL_of {n0 : Nat} {fr : Fr K El} {H : Heap K El} {vs : List (AV K El)} {R : AV K El → Heap K El → Prop} (ids lent : List Nat) (h : natsB H.length ids = true) (h0 : ids.take n0 = List.range n0) (ht : vs.all AV.ntup = true)
    (h1 : okH H ids lent ids) (h2 : okV H ids lent (oneOr vs)) (hR : R (loc H ids lent (oneOr vs)) (locH H ids lent)) : EndP n0 fr H vs R :=
  ⟨⟨[], _, _, rfl, ids, lent, reloL_of ids lent h h0 h1 trivial, by rw [tab_entry]; exact h2, by rw [tab_entry]; exact ht, by rw [tab_entry]; exact hR⟩⟩

/-- A call of a contract that tells all. -/
theorem call_of {f : Nat} {vs : List (AV K El)} {H : Heap K El} {k : AV K El → Heap K El → Prop} (ids : List Nat) {r : AV K El} {H' : Heap K El}
    (h : SpecD S f (vs.map (loc2 H ids [])) (locH H ids []) r H') (hn : natsB H.length ids = true) (ht : vs.all AV.ntup = true)
    (hk : k (glob H.length ids r) (globH H ids H')) : CallP S f vs H k :=
  ⟨⟨ids, [], _, (natsB_iff hn).1, (natsB_iff hn).2, ht, okT_nil _ _ _, okH_nil _ _ _, h, fun r H' hr => ⟨.inl rfl, by rw [hr.1, hr.2]; exact hk⟩⟩⟩

/-- A call that may prove something of its result. -/
theorem callR_of {f : Nat} {vs : List (AV K El)} {H : Heap K El} {k : AV K El → Heap K El → Prop} (ids : List Nat) {R : AV K El → Heap K El → Prop}
    (h : Spec S f (vs.map (loc2 H ids [])) (locH H ids []) R) (hn : natsB H.length ids = true) (ht : vs.all AV.ntup = true)
    (hk : ∀ r H', R r H' → k (glob H.length ids r) (globH H ids H')) : CallP S f vs H k :=
  ⟨⟨ids, [], _, (natsB_iff hn).1, (natsB_iff hn).2, ht, okT_nil _ _ _, okH_nil _ _ _, h, fun r H' hr => ⟨.inl rfl, hk r H' hr⟩⟩⟩

/-- A call that only looks at what is lent. -/
theorem callL_of {f : Nat} {vs : List (AV K El)} {H : Heap K El} {k : AV K El → Heap K El → Prop} (ids lent : List Nat) {r : AV K El} {H' : Heap K El}
    (h : SpecD S f (vs.map (loc2 H ids lent)) (locH H ids lent) r H') (hn : natsB H.length ids = true) (ht : vs.all AV.ntup = true) (h1 : okT H ids lent vs) (h2 : okH H ids lent ids)
    (hp : pureV r = true ∧ H'.all (pureO S) = true) (hk : k (glob H.length ids r) (globH H ids H')) : CallP S f vs H k :=
  ⟨⟨ids, lent, _, (natsB_iff hn).1, (natsB_iff hn).2, ht, h1, h2, h, fun r H' hr => by rw [hr.1, hr.2]; exact ⟨.inr hp, hk⟩⟩⟩

theorem Spec.mono {f : Nat} {vs : List (AV K El)} {H : Heap K El} {R R' : AV K El → Heap K El → Prop} (h : Spec S f vs H R) (hr : ∀ r H', R r H' → R' r H') : Spec S f vs H R' :=
  fun E w args he hs ha => (h E w args he hs ha).mono fun _ _ ⟨v, r, E', H', h1, h2, h3⟩ => ⟨v, r, E', H', h1, hr _ _ h2, h3⟩

end Sh
end Go.Proofs.YtomdfaelgcefdaaGreatDoor
