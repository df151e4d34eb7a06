/- The shadow machine, part 17: a region that draws its order. -/
import Derived.Test.YtomdfaelgcefdaaGreatDoorSh16
namespace Go.Proofs.YtomdfaelgcefdaaGreatDoor
open Go
namespace Sh
variable {K : Type} {El : K → Type} {S : Seat K El}

/-- What must go ahead of an operation. -/
def preds (ops : Array Oper) (n : Nat) : List Nat := match ops[n]? with
  | some o => (o.after.toList.filter fun e => Region.binds .any e).map (·.on)
  | none => []

def anc (ops : Array Oper) : Nat → Nat → List Nat
  | 0, _ => []
  | f + 1, n => preds ops n ++ (preds ops n).flatMap (anc ops f)

def swapB (j i : GIns K El) : Bool :=
  j.p.quiet && j.av.isEmpty && j.plainC &&
  (match j.d with | some x => !i.uses.contains x && i.d != some x && !j.uses.contains x | none => true) &&
  (match i.d with | some x => !j.uses.contains x | none => true) &&
  (i.p.quiet || j.uses.all fun s => i.av.contains s)

theorem swapB_spec {j i : GIns K El} (h : swapB j i = true) : Swap j i ∧ j.plainC = true := by
  unfold swapB at h
  simp only [Bool.and_eq_true, Bool.or_eq_true] at h
  obtain ⟨⟨⟨⟨⟨h1, h2⟩, h3⟩, h4⟩, h5⟩, h6⟩ := h
  refine ⟨⟨h1, List.isEmpty_iff.1 h2, fun x hx => ?_, fun x hx => ?_, fun x hx => ?_, fun x hx => ?_, ?_⟩, h3⟩
  · rw [hx] at h4; simp at h4; exact h4.1.1
  · rw [hx] at h4; simp at h4; exact h4.1.2
  · rw [hx] at h4; simp at h4; exact h4.2
  · rw [hx] at h5; simpa using h5
  · rcases h6 with h6 | h6
    · exact .inl h6
    · exact .inr fun s hs => by simpa using List.all_eq_true.1 h6 s hs

def chainB : List (GIns K El) → Bool
  | [] => true
  | y :: l => (l.all fun z => match z.d with | some d => !y.uses.contains d | none => true) && chainB l

theorem chainB_spec : ∀ {l : List (GIns K El)}, chainB l = true → l.Pairwise fun y z => ∀ s ∈ y.uses, z.d ≠ some s
  | [], _ => List.Pairwise.nil
  | y :: l, h => by
    simp only [chainB, Bool.and_eq_true] at h
    refine List.pairwise_cons.2 ⟨fun z hz s hs he => ?_, chainB_spec h.2⟩
    have := List.all_eq_true.1 h.1 z hz
    rw [he] at this
    simp [hs] at this

def loose (ops : Array Oper) (n : Nat) (l : List (Nat × GIns K El)) : List (Nat × GIns K El) := l.filter fun y => !(anc ops ops.size n).contains y.1

def pairsOK (ops : Array Oper) (before : List (Nat × GIns K El)) : List (Nat × GIns K El) → Bool
  | [] => true
  | x :: l => (before.all fun y => (anc ops ops.size x.1).contains y.1 || swapB y.2 x.2) && (x.2.p.quiet || chainB ((loose ops x.1 before).map (·.2))) && pairsOK ops (before ++ [x]) l

def drawOK (ops : Array Oper) (cs : List (Nat × GIns K El)) : Bool :=
  cs.length == ops.size && decide (cs.map (·.1)).Nodup && cs.all (fun x => x.1 < ops.size) && (List.range ops.size).all (fun n => cs.any fun x => x.1 == n) &&
  ((List.range ops.size).all fun n => (preds ops n).all fun e => e < n) && pairsOK ops [] cs

theorem pairsOK_spec {ops : Array Oper} : ∀ {l before : List (Nat × GIns K El)}, pairsOK ops before l = true → ∀ l1 x l2, l = l1 ++ x :: l2 → ∀ y ∈ before ++ l1, (anc ops ops.size x.1).contains y.1 = true ∨ swapB y.2 x.2 = true
  | [], before, _, l1, x, l2, h => by simp at h
  | z :: l, before, h, l1, x, l2, he => by
    simp only [pairsOK, Bool.and_eq_true] at h
    cases l1 with
    | nil =>
      simp at he
      obtain ⟨rfl, rfl⟩ := he
      intro y hy
      simp at hy
      have := List.all_eq_true.1 h.1.1 y hy
      simpa [Bool.or_eq_true] using this
    | cons q l1 =>
      simp at he
      obtain ⟨rfl, he⟩ := he
      intro y hy
      exact pairsOK_spec h.2 l1 x l2 he y (by simpa using hy)

theorem pairsOK_chain {ops : Array Oper} : ∀ {l before : List (Nat × GIns K El)}, pairsOK ops before l = true → ∀ l1 x l2, l = l1 ++ x :: l2 → x.2.p.quiet = true ∨ chainB ((loose ops x.1 (before ++ l1)).map (·.2)) = true
  | [], before, _, l1, x, l2, h => by simp at h
  | z :: l, before, h, l1, x, l2, he => by
    simp only [pairsOK, Bool.and_eq_true] at h
    cases l1 with
    | nil =>
      simp at he
      obtain ⟨rfl, rfl⟩ := he
      simpa [Bool.or_eq_true] using h.1.2
    | cons q l1 =>
      simp at he
      obtain ⟨rfl, he⟩ := he
      have := pairsOK_chain h.2 l1 x l2 he
      simpa using this

def un_ (listed : Array Bool) (n : Nat) : Bool := !(listed.getD n true)

theorem mem_ready' {ops : Array Oper} {listed : Array Bool} {n : Nat} : n ∈ Region.ready .any ops listed ↔ n < ops.size ∧ listed.getD n true = false ∧ ∀ e ∈ preds ops n, listed.getD e false = true := by
  unfold Region.ready preds
  simp only [List.mem_filter, List.mem_range, Bool.and_eq_true, Bool.not_eq_true']
  constructor
  · rintro ⟨h1, h2, h3⟩
    refine ⟨h1, h2, fun e he => ?_⟩
    have ho : ops[n]? = some ops[n] := by simp [h1]
    rw [ho] at h3 he
    simp only [Option.map_some, Option.getD_some, Array.all_eq_true_iff_forall_mem] at h3
    simp only [List.mem_map, List.mem_filter, Array.mem_toList_iff] at he
    obtain ⟨x, ⟨hx, hb⟩, rfl⟩ := he
    have := h3 x hx
    simpa [hb] using this
  · rintro ⟨h1, h2, h3⟩
    refine ⟨h1, h2, ?_⟩
    have ho : ops[n]? = some ops[n] := by simp [h1]
    rw [ho] at h3 ⊢
    simp only [Option.map_some, Option.getD_some, Array.all_eq_true_iff_forall_mem]
    intro x hx
    cases hb : Region.binds .any x with
    | false => rfl
    | true =>
      have := h3 x.on (List.mem_map.2 ⟨x, List.mem_filter.2 ⟨by simpa using hx, hb⟩, rfl⟩)
      simpa using this

section
variable (ok : Ok S) {N : Nat} {E0 : Env} {w0 : World} {ops : Array Oper}

theorem anc_listed {listed : Array Bool} (hc : ∀ n, listed.getD n false = true → ∀ e ∈ preds ops n, listed.getD e false = true) : ∀ (f n : Nat), (∀ e ∈ preds ops n, listed.getD e false = true) → ∀ m ∈ anc ops f n, listed.getD m false = true
  | 0, _, _, m, h => by simp [anc] at h
  | f + 1, n, hp, m, h => by
    simp only [anc, List.mem_append, List.mem_flatMap] at h
    rcases h with h | ⟨e, he, h⟩
    · exact hp m h
    · exact anc_listed hc f e (fun e' he' => hc e (hp e he) e' he') m h

theorem some_ready {listed : Array Bool} (hlt : ∀ n, n < ops.size → ∀ e ∈ preds ops n, e < n) (hsz : listed.size = ops.size) : ∀ (n : Nat), n < ops.size → listed.getD n true = false → Region.ready .any ops listed ≠ [] := by
  intro n
  induction n using Nat.strongRecOn with
  | _ n ih =>
    intro hn hu
    by_cases hp : ∀ e ∈ preds ops n, listed.getD e false = true
    · intro h0
      have := mem_ready'.2 ⟨hn, hu, hp⟩
      rw [h0] at this
      simp at this
    · simp only [Classical.not_forall] at hp
      obtain ⟨e, he, hne⟩ := hp
      have hen := hlt n hn e he
      refine ih e hen (by omega) ?_
      have hel : e < listed.size := by omega
      simp only [Array.getD, hel, dif_pos] at hne ⊢
      simpa using hne

include ok in
theorem any_sound {Q : Exit → Act → World → Prop} {cs : List (Nat × GIns K El)} (hd : drawOK ops cs = true) (hc : ∀ x ∈ cs, ∃ o i, ops[x.1]? = some o ∧ compileIns S N ops o = some i ∧ x.2 = { i with av := x.2.av }) {k : St K El → Prop}
    (hn : ∀ E' st' w' a', Rel S N E0 w0 E' st' w' a' → k st' → Q .normal a' w') :
    ∀ (fuel : Nat) (listed : Array Bool) {E : Env} {st : St K El} {w : World} {a : Act}, listed.size = ops.size → (cs.filter fun x => un_ listed x.1).length = fuel → (∀ n, listed.getD n false = true → ∀ e ∈ preds ops n, listed.getD e false = true) →
      Rel S N E0 w0 E st w a → vcL S ((cs.filter fun x => un_ listed x.1).map (·.2)) st k → wpAny S.P .any ops Q fuel listed a w := by
  simp only [drawOK, Bool.and_eq_true, decide_eq_true_eq] at hd
  obtain ⟨⟨⟨⟨⟨_, hnd⟩, hall⟩, hev⟩, hlt⟩, hpairs⟩ := hd
  have hlt' : ∀ n, n < ops.size → ∀ e ∈ preds ops n, e < n := fun n hn e he => by
    have := List.all_eq_true.1 (List.all_eq_true.1 hlt n (by simpa using hn)) e he
    simpa using this
  have hmem : ∀ n, n < ops.size → ∃ x ∈ cs, x.1 = n := by
    intro n hn'
    have := List.all_eq_true.1 hev n (by simpa using hn')
    obtain ⟨x, hx, hxe⟩ := List.any_eq_true.1 this
    exact ⟨x, hx, by simpa using hxe⟩
  have hidx : ∀ x ∈ cs, x.1 < ops.size := fun x hx => by simpa using List.all_eq_true.1 hall x hx
  intro fuel
  induction fuel with
  | zero =>
    intro listed E st w a hsz hrem hcl hre hv
    have hnil : cs.filter (fun x => un_ listed x.1) = [] := List.eq_nil_of_length_eq_zero hrem
    rw [hnil] at hv
    refine ⟨?_, hn _ _ _ _ hre hv⟩
    rw [List.eq_nil_iff_forall_not_mem]
    intro n hnr
    obtain ⟨h1, h2, _⟩ := mem_ready'.1 hnr
    obtain ⟨x, hx, rfl⟩ := hmem n h1
    have : x ∈ cs.filter (fun x => un_ listed x.1) := List.mem_filter.2 ⟨hx, by simp [un_, h2]⟩
    rw [hnil] at this
    simp at this
  | succ fuel ih =>
    intro listed E st w a hsz hrem hcl hre hv
    refine ⟨fun h0 => ?_, fun n hnr => ?_⟩
    · exfalso
      obtain ⟨x, hx⟩ : ∃ x, x ∈ cs.filter (fun x => un_ listed x.1) := by
        cases hq : cs.filter (fun x => un_ listed x.1) with
        | nil => rw [hq] at hrem; simp at hrem
        | cons x l => exact ⟨x, by simp⟩
      obtain ⟨hx1, hx2⟩ := List.mem_filter.1 hx
      exact some_ready hlt' hsz x.1 (hidx x hx1) (by simpa [un_] using hx2) h0
    · obtain ⟨h1, h2, h3⟩ := mem_ready'.1 hnr
      obtain ⟨x, hx, rfl⟩ := hmem n h1
      obtain ⟨l1, l2, rfl⟩ := List.append_of_mem hx
      have hux : un_ listed x.1 = true := by simp [un_, h2]
      have hfx : (x :: l2).filter (fun x => un_ listed x.1) = x :: l2.filter (fun x => un_ listed x.1) := by simp [hux]
      rw [List.filter_append, hfx, List.map_append, List.map_cons] at hv
      have hswap : ∀ j ∈ (l1.filter fun x => un_ listed x.1).map (·.2), Swap j x.2 ∧ j.plainC = true := by
        intro j hj
        obtain ⟨y, hy, rfl⟩ := List.mem_map.1 hj
        obtain ⟨hy1, hy2⟩ := List.mem_filter.1 hy
        rcases pairsOK_spec hpairs l1 x l2 rfl y (by simpa using hy1) with hq | hq
        · exfalso
          have := anc_listed hcl ops.size x.1 h3 y.1 (by simpa using hq)
          have hyl : y.1 < listed.size := by rw [hsz]; exact hidx y (by simp [hy1])
          simp only [un_, Array.getD, hyl, dif_pos] at hy2 this
          rw [this] at hy2
          simp at hy2
        · exact swapB_spec hq
      have hpw : x.2.p.quiet = true ∨ ((l1.filter fun x => un_ listed x.1).map (·.2)).Pairwise fun y z => ∀ s ∈ y.uses, z.d ≠ some s := by
        refine (pairsOK_chain hpairs l1 x l2 rfl).imp id fun hch => ?_
        refine (chainB_spec hch).sublist (List.Sublist.map _ ?_)
        have he : l1.filter (fun y => un_ listed y.1) = (loose ops x.1 l1).filter (fun y => un_ listed y.1) := by
          unfold loose
          rw [List.filter_filter]
          refine List.filter_congr fun y hy => ?_
          cases hu : un_ listed y.1 with
          | false => simp
          | true =>
            cases hq : (anc ops ops.size x.1).contains y.1 with
            | false => simp
            | true =>
              exfalso
              have := anc_listed hcl ops.size x.1 h3 y.1 (by simpa using hq)
              have hyl : y.1 < listed.size := by rw [hsz]; exact hidx y (by simp [hy])
              simp only [un_, Array.getD, hyl, dif_pos] at hu this
              rw [this] at hu
              simp at hu
        rw [he]
        simp
      have hfront := vcL_front _ hswap hpw hv
      obtain ⟨o, i, ho, hi, hie⟩ := hc x hx
      have hset : ∀ m, m ≠ x.1 → un_ (listed.setIfInBounds x.1 true) m = un_ listed m := by
        intro m hm
        simp only [un_, Array.getD_eq_getD_getElem?]
        rw [Array.getElem?_setIfInBounds_ne (fun e => hm e.symm)]
      have hself : un_ (listed.setIfInBounds x.1 true) x.1 = false := by
        have : x.1 < listed.size := by rw [hsz]; exact h1
        simp [un_, Array.getD, this]
      have hne : ∀ y, y ∈ l1 ∨ y ∈ l2 → y.1 ≠ x.1 := by
        intro y hy he
        rw [List.map_append, List.map_cons, List.nodup_append] at hnd
        obtain ⟨_, hnd2, hdis⟩ := hnd
        rcases hy with hy | hy
        · exact hdis y.1 (List.mem_map.2 ⟨y, hy, rfl⟩) x.1 (by simp) he
        · exact (List.nodup_cons.1 hnd2).1 (he ▸ List.mem_map.2 ⟨y, hy, rfl⟩)
      have hrem' : (l1 ++ x :: l2).filter (fun y => un_ (listed.setIfInBounds x.1 true) y.1) = l1.filter (fun y => un_ listed y.1) ++ l2.filter (fun y => un_ listed y.1) := by
        rw [List.filter_append, List.filter_cons_of_neg (by simp [hself])]
        congr 1
        · exact List.filter_congr fun y hy => hset y.1 (hne y (.inl hy))
        · exact List.filter_congr fun y hy => hset y.1 (hne y (.inr hy))
      have hgo := ins_sound ok hi (av := drops ((l1.filter fun x => un_ listed x.1).map (·.2)) x.2.av) hre (next := wpAny S.P .any ops Q fuel (listed.setIfInBounds x.1 true)) (Q := Q) (by rw [hie] at hfront; exact hfront) fun E' st' w' a' hr hk => by
        refine ih (listed.setIfInBounds x.1 true) (by simpa using hsz) ?_ ?_ hr ?_
        · rw [hrem']
          rw [List.filter_append, hfx] at hrem
          simp at hrem ⊢
          omega
        · intro m hm e he
          have hmono : listed.getD e false = true → (listed.setIfInBounds x.1 true).getD e false = true := fun h => getD_set_true h
          by_cases hmx : m = x.1
          · subst hmx; exact hmono (h3 e he)
          · refine hmono (hcl m ?_ e he)
            rwa [getD_set_ne false (fun e => hmx e.symm)] at hm
        · rw [hrem', List.map_append]; exact hk
      unfold wpOp
      rw [ho]
      exact hgo

end
end Sh
end Go.Proofs.YtomdfaelgcefdaaGreatDoor
