/- The shadow machine, part 15: a region's operations in the text's order, and in any order that Go allows. -/
import Derived.Test.YtomdfaelgcefdaaGreatDoorSh14
namespace Go.Proofs.YtomdfaelgcefdaaGreatDoor
open Go
namespace Sh
variable {K : Type} {El : K → Type}

def Opd.slot : Opd K El → List Nat
  | .tmp t => [t]
  | .const _ => []

/-- The slots that an operation looks at. -/
def GIns.uses (i : GIns K El) : List Nat := (match i.g with | some (s, _) => [s] | none => []) ++ i.xs.flatMap Opd.slot

/-- What is not covered asks for the impossible. -/
def compileOpB (S : Seat K El) (o : Oper) : Option (Prim K El × List (Opd K El)) := match compileOp S o with
  | some r => some r
  | none => some (.bad, [])

def compileIns (S : Seat K El) (N : Nat) (ops : Array Oper) (o : Oper) : Option (GIns K El) := match compileOpB S o with
  | some (p, xs) => match o.dst with
    | some d => if d < N then match o.guard with
        | none => some ⟨none, p, xs, some d, []⟩
        | some (j, want) => match (ops[j]?).bind (·.dst) with
          | some s => if s < N then some ⟨some (s, want), p, xs, some d, []⟩ else none
          | none => none
      else none
    | none => match o.guard with
      | none => some ⟨none, p, xs, none, []⟩
      | some (j, want) => match (ops[j]?).bind (·.dst) with
        | some s => if s < N then some ⟨some (s, want), p, xs, none, []⟩ else none
        | none => none
  | none => none

variable {S : Seat K El}

theorem compileIns_some {N : Nat} {ops : Array Oper} {o : Oper} {i : GIns K El} (h : compileIns S N ops o = some i) :
    compileOpB S o = some (i.p, i.xs) ∧ i.d = o.dst ∧ i.av = [] ∧ (∀ d, o.dst = some d → d < N) ∧
      ((o.guard = none ∧ i.g = none) ∨ ∃ j want s, o.guard = some (j, want) ∧ (ops[j]?).bind (·.dst) = some s ∧ s < N ∧ i.g = some (s, want)) := by
  unfold compileIns at h
  split at h
  · rename_i p xs hc
    split at h
    · rename_i d hd
      split at h
      · rename_i hdN
        split at h
        · rename_i hg; cases h; exact ⟨hc, hd.symm, rfl, fun d' h' => by rw [hd] at h'; cases h'; exact hdN, .inl ⟨hg, rfl⟩⟩
        · rename_i j want hg
          split at h
          · rename_i s hs
            split at h
            · rename_i hsN; cases h; exact ⟨hc, hd.symm, rfl, fun d' h' => by rw [hd] at h'; cases h'; exact hdN, .inr ⟨j, want, s, hg, hs, hsN, rfl⟩⟩
            · cases h
          · cases h
      · cases h
    · rename_i hd
      split at h
      · rename_i hg; cases h; exact ⟨hc, hd.symm, rfl, (fun d' h' => by rw [hd] at h'; cases h'), .inl ⟨hg, rfl⟩⟩
      · rename_i j want hg
        split at h
        · rename_i s hs
          split at h
          · rename_i hsN; cases h; exact ⟨hc, hd.symm, rfl, (fun d' h' => by rw [hd] at h'; cases h'), .inr ⟨j, want, s, hg, hs, hsN, rfl⟩⟩
          · cases h
        · cases h
  · cases h

/-- What holds of a run's state against the shadow's. -/
structure Rel (S : Seat K El) (N : Nat) (E0 : Env) (w0 : World) (E : Env) (st : St K El) (w : World) (a : Act) : Prop where
  emb : Emb S E st.H w
  fr : FrR S E w st.fr a
  ext : Ext E0 w0 E w
  size : a.tmps.size = N
  defers : a.defers = []

section
variable (ok : Ok S) {N : Nat} {E0 E : Env} {w0 w : World} {st : St K El} {a : Act}

include ok in
theorem FrR.upd {E' : Env} {w' : World} {fr : Nat → AV K El} (h : FrR S E w fr a) (hx : Ext E w E' w') {dst : Option Nat} (hd : ∀ d, dst = some d → d < a.tmps.size) {r : AV K El} {v : Value} (hv : VRv S E' w' r v) : FrR S E' w' (Sh.upd fr dst r) (a.put dst v) := by
  intro t
  cases dst with
  | none => exact VRv.mono ok hx (h t)
  | some d =>
    have hdl := hd d rfl
    simp only [Sh.upd, Act.put]
    by_cases ht : t = d
    · subst ht
      simp only [if_true]
      have : (a.tmps.setIfInBounds t v).getD t undef = v := by simp [Array.getD, hdl]
      rw [this]; exact hv
    · simp only [ht, if_false]
      have : (a.tmps.setIfInBounds d v).getD t undef = a.tmps.getD t undef := by
        simp only [Array.getD_eq_getD_getElem?]
        rw [Array.getElem?_setIfInBounds_ne (fun e => ht e.symm)]
      rw [this]; exact VRv.mono ok hx (h t)

theorem put_size (dst : Option Nat) (v : Value) : (a.put dst v).tmps.size = a.tmps.size := by cases dst <;> simp [Act.put]
theorem put_defers (dst : Option Nat) (v : Value) : (a.put dst v).defers = a.defers := by cases dst <;> simp [Act.put]

include ok in
theorem Rel.next (h : Rel S N E0 w0 E st w a) {E' : Env} {w' : World} {H' : Heap K El} (he : Emb S E' H' w') (hx : Ext E w E' w') {dst : Option Nat} (hd : ∀ d, dst = some d → d < N) {r : AV K El} {v : Value} (hv : VRv S E' w' r v) :
    Rel S N E0 w0 E' ⟨upd st.fr dst r, H'⟩ w' (a.put dst v) :=
  ⟨he, h.fr.upd ok hx (fun d hd' => by rw [h.size]; exact hd d hd') hv, h.ext.trans hx, by rw [put_size, h.size], by rw [put_defers, h.defers]⟩

include ok in
/-- One operation of a region. -/
theorem ins_sound {ops : Array Oper} {o : Oper} {i : GIns K El} (hc : compileIns S N ops o = some i) {av : List Nat} (h : Rel S N E0 w0 E st w a) {k : St K El → Prop} (hv : ({ i with av := av } : GIns K El).vc S st k) {next : Act → World → Prop} {Q : Exit → Act → World → Prop}
    (hn : ∀ E' st' w' a', Rel S N E0 w0 E' st' w' a' → k st' → next a' w') : if Region.wanted o (yielded ops a.tmps) then o.wp S.P a w next Q ∨ (o.asks S.P a w ∧ LetsOut Q) else next (a.put o.dst undef) w := by
  obtain ⟨h1, h2, h3, h4, h5⟩ := compileIns_some hc
  have run : ({ i with av := av } : GIns K El).run S st k → o.wp S.P a w next Q := by
    intro hr
    unfold compileOpB at h1
    split at h1
    rotate_left
    · cases hp : i.p <;> rw [hp] at h1 <;> first | (cases h1; done) | skip
      exfalso
      unfold GIns.run at hr
      rw [hp] at hr
      exact hr
    rename_i r1 hr1
    cases h1
    refine op_sound ok hr1 h.emb h.fr hr fun r H' E' w' v hk he hx hv => ?_
    have hre := h.next ok he hx (dst := o.dst) (fun d hd => h4 d hd) hv
    have hk2 := hk.2
    simp only [h2] at hk2
    exact hn _ _ _ _ hre hk2
  have skip : i.skip st k → next (a.put o.dst undef) w := by
    intro hs
    have hre := h.next ok h.emb Ext.refl (dst := o.dst) (fun d hd => h4 d hd) (show VRv S E w (.tup []) undef from ⟨#[], rfl, rfl, fun j u hu => by simp at hu⟩)
    simp only [GIns.skip, h2] at hs
    exact hn _ _ _ _ hre hs
  rcases h5 with ⟨hg, hig⟩ | ⟨j, want, s, hg, hs, hsN, hig⟩
  · have hw : Region.wanted o (yielded ops a.tmps) = true := by simp [Region.wanted, hg]
    rw [if_pos hw]
    simp only [GIns.vc, hig] at hv
    exact .inl (run hv)
  · simp only [GIns.vc, hig] at hv
    have hfr := h.fr s
    have hsl : s < a.tmps.size := by rw [h.size]; exact hsN
    have key : ∃ b, Region.wanted o (yielded ops a.tmps) = b ∧ cas b (({ i with av := av } : GIns K El).run S st k) (i.skip st k) := by
      unfold onO at hv
      split at hv
      · rename_i t ht
        refine ⟨t, ?_, hv⟩
        unfold gate at ht
        split at ht
        · rename_i b hb
          rw [hb] at hfr
          have hbv : a.tmps.getD s undef = .bool b := VR.bool_inv (show VR S E w _ _ from hfr)
          have hb2 : a.tmps[s]? = some (.bool b) := by rw [← hbv]; simp [Array.getD, hsl]
          have hy : yielded ops a.tmps j = some b := by simp [yielded, hs, hb2]
          cases ht
          simp only [Region.wanted, hg, hy]
          cases b <;> cases want <;> rfl
        · rename_i hb
          rw [hb] at hfr
          obtain ⟨cs, hcs, _⟩ := hfr
          have hb2 : a.tmps[s]? = some (.tuple cs) := by rw [← hcs]; simp [Array.getD, hsl]
          have hy : yielded ops a.tmps j = none := by simp [yielded, hs, hb2]
          cases ht
          simp only [Region.wanted, hg, hy]
          rfl
        · cases ht
      · exact hv.elim
    obtain ⟨b, hw, hv⟩ := key
    rw [hw]
    rw [cas_iff] at hv
    cases b with
    | true => simp only [if_true]; exact .inl (run (hv.1 rfl))
    | false => simp only [Bool.false_eq_true, if_false]; exact skip (hv.2 rfl)

def compileL (S : Seat K El) (N : Nat) (ops : Array Oper) : List Oper → Option (List (GIns K El))
  | [] => some []
  | o :: l => match compileIns S N ops o, compileL S N ops l with
    | some i, some is => some (i :: is)
    | _, _ => none

include ok in
theorem list_sound {ops : Array Oper} {Q : Exit → Act → World → Prop} : ∀ (l : List Oper) (is : List (GIns K El)), compileL S N ops l = some is → ∀ {E : Env} {st : St K El} {w : World} {a : Act}, Rel S N E0 w0 E st w a → ∀ {k : St K El → Prop}, vcL S is st k →
    (∀ E' st' w' a', Rel S N E0 w0 E' st' w' a' → k st' → Q .normal a' w') → wpList S.P ops Q l a w
  | [], is, hc, E, st, w, a, h, k, hv, hn => by simp [compileL] at hc; subst hc; exact hn _ _ _ _ h hv
  | o :: l, is, hc, E, st, w, a, h, k, hv, hn => by
    simp only [compileL] at hc
    split at hc
    · rename_i i is' hi his
      simp at hc; subst hc
      obtain ⟨_, _, hav, _⟩ := compileIns_some hi
      have hie : ({ i with av := i.av } : GIns K El) = i := rfl
      unfold wpList
      exact ins_sound ok hi (av := i.av) h (by rw [hie]; exact hv) fun E' st' w' a' hr hk => list_sound l is' his hr hk hn
    · cases hc

/-! ### Any order -/
theorem upd_comm {fr : Nat → AV K El} {d e : Option Nat} (h : ∀ x, d = some x → e ≠ some x) (u v : AV K El) : upd (upd fr d u) e v = upd (upd fr e v) d u := by
  funext t
  cases d with
  | none => rfl
  | some d =>
    cases e with
    | none => rfl
    | some e =>
      have hde : e ≠ d := fun q => h d rfl (by rw [q])
      simp only [upd]
      by_cases h1 : t = e
      · subst h1; simp [hde]
      · by_cases h2 : t = d
        · subst h2; simp [h1]
        · simp [h1, h2]

/-- Two operations whose slots are apart. -/
def apartI (j i : GIns K El) : Bool :=
  (match j.d with | some d => !i.uses.contains d && i.d != some d && !j.uses.contains d | none => true) && (match i.d with | some d => !j.uses.contains d | none => true)

/-- May j be done behind i? -/
def swapOK (j i : GIns K El) : Bool := j.p.quiet && j.av.isEmpty && apartI j i && (i.p.quiet || j.uses.all fun s => i.av.contains s)

theorem opdV_upd {fr : Nat → AV K El} {d : Option Nat} {v : AV K El} {xs : List (Opd K El)} (h : ∀ x, d = some x → x ∉ xs.flatMap Opd.slot) : xs.map (opdV (upd fr d v)) = xs.map (opdV fr) := by
  refine List.map_congr_left fun x hx => ?_
  cases x with
  | const c => rfl
  | tmp t =>
    cases d with
    | none => rfl
    | some d =>
      have : d ∉ xs.flatMap Opd.slot := h d rfl
      have ht : t ≠ d := fun e => this (List.mem_flatMap.2 ⟨_, hx, by simp [Opd.slot, e]⟩)
      simp [opdV, upd, ht]

theorem avOK_mem : ∀ {av : List Nat} {fr : Nat → AV K El} {H H' : Heap K El}, avOK av fr H H' → ∀ s ∈ av, sameAt (fr s) H H'
  | [], _, _, _, _, s, hs => by simp at hs
  | b :: r, fr, H, H', h, s, hs => by
    rcases List.mem_cons.1 hs with rfl | hs
    · exact h.1
    · exact avOK_mem h.2 s hs

theorem avOK_upd : ∀ {av : List Nat} {fr : Nat → AV K El} {d : Option Nat} {v : AV K El} {H H' : Heap K El}, (∀ x, d = some x → x ∉ av) → avOK av (upd fr d v) H H' → avOK av fr H H'
  | [], _, _, _, _, _, _, _ => trivial
  | b :: r, fr, d, v, H, H', hd, h => by
    refine ⟨?_, avOK_upd (fun x hx hr => hd x hx (List.mem_cons_of_mem _ hr)) h.2⟩
    have h1 := h.1
    cases d with
    | none => exact h1
    | some d =>
      have : b ≠ d := fun e => hd d rfl (by simp [e])
      simpa [upd, this] using h1

theorem sameAt_const {fr : Nat → AV K El} {H H' : Heap K El} {xs : List (Opd K El)} (hc : ∀ c, Opd.const c ∈ xs → ∀ H H' : Heap K El, sameAt c H H') (hs : ∀ s ∈ xs.flatMap Opd.slot, sameAt (fr s) H H') : ∀ v ∈ xs.map (opdV fr), sameAt v H H' := by
  intro v hv
  obtain ⟨x, hx, rfl⟩ := List.mem_map.1 hv
  cases x with
  | const c => exact hc c hx H H'
  | tmp t => exact hs t (List.mem_flatMap.2 ⟨_, hx, by simp [Opd.slot]⟩)

end
end Sh
end Go.Proofs.YtomdfaelgcefdaaGreatDoor
