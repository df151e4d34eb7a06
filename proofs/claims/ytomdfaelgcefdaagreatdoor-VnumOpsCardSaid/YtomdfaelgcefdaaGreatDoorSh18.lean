/- The shadow machine, part 18: code, and functions. -/
import Derived.Test.YtomdfaelgcefdaaGreatDoorSh17
import Derived.ScopeJumps
namespace Go.Proofs.YtomdfaelgcefdaaGreatDoor
open Go
namespace Sh
variable {K : Type} {El : K → Type}

inductive AC (K : Type) (El : K → Type) where
  | skip
  | reg (is : List (GIns K El)) (ks : List Nat)
  | seq (a b : AC K El)
  | cond (c : Opd K El) (a b : AC K El)
  | block (id : Nat) (a : AC K El)
  | loop (a : AC K El) (ks : List Nat)
  | exit (id : Nat)
  | ret
  | goto (l : Nat)
  | scope (a : AC K El) (l : Nat) (r : AC K El)
  | bad

def canonGo (n : Nat) (pr : Nat → List Nat) (quiet : Nat → Bool) : Nat → List Nat → List Nat
  | 0, done => done.reverse
  | f + 1, done =>
    let cand := (List.range n).filter fun i => !done.contains i && (pr i).all fun e => done.contains e
    match cand.find? quiet with
    | some i => canonGo n pr quiet f (i :: done)
    | none => match cand with
      | i :: _ => canonGo n pr quiet f (i :: done)
      | [] => done.reverse

def quietAt (S : Seat K El) (ops : Array Oper) (i : Nat) : Bool := match ops[i]? with
  | some o => match compileOpB S o with
    | some (p, _) => p.quiet
    | none => false
  | none => false

def mkDraw (S : Seat K El) (N : Nat) (ops : Array Oper) (before : List (Nat × GIns K El)) : List Nat → Option (List (Nat × GIns K El))
  | [] => some []
  | n :: l => match ops[n]? with
    | some o => match compileIns S N ops o with
      | some i =>
        let av := if i.p.quiet then [] else ((before.filter fun y => !(anc ops ops.size n).contains y.1).flatMap fun y => y.2.uses).eraseDups
        let x : Nat × GIns K El := (n, { i with av := av })
        match mkDraw S N ops (before ++ [x]) l with
        | some r => some (x :: r)
        | none => none
      | none => none
    | none => none

def labOf : Code → Option Nat
  | .label l => some l
  | .seq a b => match labOf a with
    | some l => some l
    | none => labOf b
  | _ => none

def compile (S : Seat K El) (N : Nat) (kf : List Nat) : Nat → List (List Nat) → Code → Option (AC K El × List (List Nat))
  | 0, _, _ => none
  | f + 1, hs, c => match c with
    | .skip => some (.skip, hs)
    | .region _ ops draw =>
      if draw then match mkDraw S N ops [] (canonGo ops.size (preds ops) (quietAt S ops) ops.size []) with
        | some cs => if drawOK ops cs then some (.reg (cs.map (·.2)) kf, hs) else some (.bad, hs)
        | none => some (.bad, hs)
      else match compileL S N ops ops.toList with
        | some is => some (.reg is kf, hs)
        | none => some (.bad, hs)
    | .rangeFunc _ _ _ _ => some (.bad, hs)
    | .refuse _ => some (.bad, hs)
    | .seq a b => match compile S N kf f hs a with
      | some (a', hs') => match compile S N kf f hs' b with
        | some (b', hs'') => some (.seq a' b', hs'')
        | none => none
      | none => none
    | .cond c a b => match cOpd c, compile S N kf f hs a with
      | some c', some (a', hs') => match compile S N kf f hs' b with
        | some (b', hs'') => some (.cond c' a' b', hs'')
        | none => none
      | _, _ => none
    | .block id a => match compile S N kf f hs a with
      | some (a', hs') => some (.block id a', hs')
      | none => none
    | .loop a => match hs with
      | ks :: hs => match compile S N kf f hs a with
        | some (a', hs') => some (.loop a' ks, hs')
        | none => none
      | [] => none
    | .exit id => some (.exit id, hs)
    | .ret => some (.ret, hs)
    | .label _ => some (.skip, hs)
    | .goto l => some (.goto l, hs)
    | .scope a => match labOf a with
      | some l => match findLabel a l, compile S N kf f hs a with
        | some r, some (a', hs') => match compile S N kf f hs' r with
          | some (r', hs'') => some (.scope a' l r', hs'')
          | none => none
        | _, _ => none
      | none => none

inductive Ex where
  | normal
  | exit (id : Nat)
  | ret
  | goto (l : Nat)

def keepF (ks : List Nat) (fr : Nat → AV K El) : Nat → AV K El := ofL (ks.map fun t => (t, fr t))

/-- The kept slots and the objects `ids`, numbered anew; what is lent becomes plain data. -/
def St.relo (st : St K El) (ids lent ks : List Nat) : St K El := ⟨ofL (ks.map fun t => (t, loc st.H ids lent (st.fr t))), locH st.H ids lent⟩

def okF (H : Heap K El) (ids lent : List Nat) (fr : Nat → AV K El) : List Nat → Prop
  | [] => True
  | t :: r => okV H ids lent (fr t) ∧ okF H ids lent fr r

structure OkRelo (n0 : Nat) (st : St K El) (ids lent ks : List Nat) : Prop where
  nodup : ids.Nodup
  lt : ∀ i ∈ ids, i < st.H.length
  old : ids.take n0 = List.range n0
  okH : okH st.H ids lent ids
  okF : okF st.H ids lent st.fr ks

/-- A nil slice seen as an owned one over an empty row that lies nowhere. -/
inductive Gh : St K El → St K El → Prop
  | refl (st : St K El) : Gh st st
  | slot {st st' : St K El} (t : Nat) (k : K) (h : st.fr t = .nils) (r : Gh ⟨upd st.fr (some t) (.own k st.H.length 0 0 .whole), st.H ++ [.row k []]⟩ st') : Gh st st'
  | cell {st st' : St K El} (i j : Nat) (k : K) (vs : List (AV K El)) (h : st.H[i]? = some (.cells vs)) (hj : vs[j]? = some .nils)
      (r : Gh ⟨st.fr, st.H.set i (.cells (vs.set j (.own k st.H.length 0 0 .whole))) ++ [.row k []]⟩ st') : Gh st st'

/-- An element of a row told cell by cell, and back. -/
inductive HGh (S : Seat K El) : Heap K El → Heap K El → Prop
  | refl (H : Heap K El) : HGh S H H
  | openx {H H' : Heap K El} (i e : Nat) (k : K) (xs : List (El k)) (h : H[i]? = some (.row k xs)) (he : e < xs.length) (r : HGh S (H.set i (.rowx k xs e (S.enc k (xs.getD e (S.zero k))))) H') : HGh S H H'
  | closex {H H' : Heap K El} (i e : Nat) (k : K) (xs : List (El k)) (vs : List (AV K El)) (x : El k) (h : H[i]? = some (.rowx k xs e vs)) (hx : S.enc k x = vs) (r : HGh S (H.set i (.row k (xs.set e x))) H') : HGh S H H'

def vc (S : Seat K El) (n0 : Nat) : AC K El → St K El → (Ex → St K El → Prop) → Prop
  | .skip, st, Q => Q .normal st
  | .reg is ks, st, Q => vcL S is st fun st' => Q .normal ⟨keepF ks st'.fr, st'.H⟩
  | .seq a b, st, Q => vc S n0 a st fun e st' => match e with
    | .normal => vc S n0 b st' Q
    | e => Q e st'
  | .cond c a b, st, Q => onB (opdV st.fr c) fun t => cas t (vc S n0 a st Q) (vc S n0 b st Q)
  | .block id a, st, Q => vc S n0 a st fun e st' => match e with
    | .exit j => if j = id then Q .normal st' else Q (.exit j) st'
    | e => Q e st'
  | .loop a ks, st, Q => ∃ (Inv : St K El → Prop) (μ : St K El → Nat), (∃ st0, Gh st st0 ∧ ∃ ids lent, OkRelo n0 st0 ids lent ks ∧ ∃ H2, HGh S (st0.relo ids lent ks).H H2 ∧ Inv ⟨(st0.relo ids lent ks).fr, H2⟩) ∧
      ∀ st1, Inv st1 → vc S n0 a st1 fun e st2 => match e with
        | .normal => ∃ ids lent, OkRelo n0 st2 ids lent ks ∧ ∃ H2, HGh S (st2.relo ids lent ks).H H2 ∧ Inv ⟨(st2.relo ids lent ks).fr, H2⟩ ∧ μ ⟨(st2.relo ids lent ks).fr, H2⟩ < μ st1
        | e => Q e st2
  | .exit id, st, Q => Q (.exit id) st
  | .ret, st, Q => Q .ret st
  | .goto l, st, Q => Q (.goto l) st
  | .bad, _, _ => False
  | .scope a l r, st, Q => vc S n0 a st fun e st' => match e with
    | .goto l' => l' = l ∧ vc S n0 r st' fun e st'' => match e with
      | .goto _ => False
      | e => Q e st''
    | e => Q e st'

def Ex.to : Ex → Exit
  | .normal => .normal
  | .exit id => .exit id
  | .ret => .ret
  | .goto l => .goto l

variable {S : Seat K El}

theorem ofL_get (f : Nat → AV K El) : ∀ (ks : List Nat) (t : Nat), ofL (ks.map fun t => (t, f t)) t = .junk ∨ (t ∈ ks ∧ ofL (ks.map fun t => (t, f t)) t = f t)
  | [], t => .inl rfl
  | a :: ks, t => by
    simp only [ofL, List.map_cons, List.lookup_cons]
    by_cases h : t = a
    · subst h; right; simp
    · have hb : (t == a) = false := by simpa using h
      rw [hb]
      rcases ofL_get f ks t with h1 | ⟨h1, h2⟩
      · exact .inl h1
      · exact .inr ⟨List.mem_cons_of_mem _ h1, h2⟩

theorem okF_mem {H : Heap K El} {ids lent : List Nat} {fr : Nat → AV K El} : ∀ {ks : List Nat}, okF H ids lent fr ks → ∀ t ∈ ks, okV H ids lent (fr t)
  | [], _, t, h => by simp at h
  | a :: ks, h, t, ht => by
    rcases List.mem_cons.1 ht with rfl | ht
    · exact h.1
    · exact okF_mem h.2 t ht

section
variable (ok : Ok S) {N : Nat} {E0 : Env} {w0 : World}

theorem Rel.keep {E : Env} {st : St K El} {w : World} {a : Act} (h : Rel S N E0 w0 E st w a) (ks : List Nat) : Rel S N E0 w0 E ⟨keepF ks st.fr, st.H⟩ w a :=
  ⟨h.emb, fun t => by
    rcases ofL_get st.fr ks t with h1 | ⟨_, h2⟩
    · simp only [keepF]; rw [h1]; exact VR.junk _
    · simp only [keepF]; rw [h2]; exact h.fr t, h.ext, h.size, h.defers⟩

def outEnv (E : Env) (ids : List Nat) : Env := ⟨ids.map fun i => E.ρ.getD i .gone, E.F⟩

theorem Sub.outEnv {E : Env} {H : Heap K El} {w : World} {ids lent : List Nat} (h : Emb S E H w) (hn : ids.Nodup) (hl : ∀ i ∈ ids, i < H.length) : Sub S E H w ids lent (outEnv E ids) := by
  have back : ∀ (j : Nat) (b : Nat), (Sh.outEnv E ids).ρ[j]? = some (.blk b) → ∃ i, i ∈ ids ∧ E.ρ[i]? = some (.blk b) := by
    intro j b hj
    simp only [Sh.outEnv, List.getElem?_map] at hj
    cases hq : ids[j]? with
    | none => rw [hq] at hj; simp at hj
    | some i =>
      rw [hq] at hj; simp at hj
      have hlt : i < E.ρ.length := by rw [h.len]; exact hl i (mem_of_getElem? hq)
      refine ⟨i, mem_of_getElem? hq, ?_⟩
      rw [List.getElem?_eq_getElem hlt]
      simpa [List.getD, List.getElem?_eq_getElem hlt] using hj
  refine ⟨h, hn, hl, rfl, fun b hb => ⟨fun i hi => ?_, hb.2⟩, fun i b hi hni hb => ⟨fun j hj => ?_, fun hF => (h.F b hF).2 i hb⟩, fun b hF => ⟨(h.F b hF).1, fun j hj => ?_⟩⟩
  · obtain ⟨a, _, ha⟩ := back i b hi
    exact hb.1 a ha
  · obtain ⟨a, ha, hab⟩ := back j b hj
    have := h.inj a i b hab hb
    subst this
    exact hni ha
  · obtain ⟨a, _, hab⟩ := back j b hj
    exact (h.F b hF).2 a hab

theorem ext_out {E : Env} {H : Heap K El} {w : World} {ids : List Nat} (h : Emb S E H w) (hl : ∀ i ∈ ids, i < H.length) (hx : Ext E0 w0 E w) {n0 : Nat} (hn0 : E0.ρ.length = n0) (hold : ids.take n0 = List.range n0) : Ext E0 w0 (outEnv E ids) w where
  size := hx.size
  keep := hx.keep
  shape := hx.shape
  mono i l hi := by
    have hi0 : i < n0 := by rw [← hn0]; exact (List.getElem?_eq_some_iff.1 hi).1
    have hid : ids[i]? = some i := by
      have : (ids.take n0)[i]? = some i := by rw [hold]; simp [hi0]
      rwa [List.getElem?_take_of_lt hi0] at this
    have hlt : i < E.ρ.length := by rw [h.len]; exact hl i (mem_of_getElem? hid)
    have : (outEnv E ids).ρ[i]? = some E.ρ[i] := by
      simp only [outEnv, List.getElem?_map, hid, Option.map_some, List.getD, List.getElem?_eq_getElem hlt, Option.getD_some]
    rw [this]
    rcases hx.mono i l hi with h1 | h1
    · rw [List.getElem?_eq_getElem hlt] at h1; exact .inl h1
    · rw [List.getElem?_eq_getElem hlt] at h1; exact .inr h1
  fresh j b hj := by
    simp only [outEnv, List.getElem?_map] at hj
    cases hq : ids[j]? with
    | none => rw [hq] at hj; simp at hj
    | some i =>
      rw [hq] at hj; simp at hj
      have hlt : i < E.ρ.length := by rw [h.len]; exact hl i (mem_of_getElem? hq)
      refine hx.fresh i b ?_
      rw [List.getElem?_eq_getElem hlt]
      simpa [List.getD, List.getElem?_eq_getElem hlt] using hj
  F := hx.F
  os := hx.os
  tape := hx.tape
  output := hx.output

include ok in
theorem Rel.relo {E : Env} {st : St K El} {w : World} {a : Act} (h : Rel S N E0 w0 E st w a) {n0 : Nat} (hn0 : E0.ρ.length = n0) {ids lent ks : List Nat} (hr : OkRelo n0 st ids lent ks) : Rel S N E0 w0 (outEnv E ids) (st.relo ids lent ks) w a := by
  have hsub : Sub S E st.H w ids lent (outEnv E ids) := .outEnv h.emb hr.nodup hr.lt
  refine ⟨loc_Emb ok hsub hr.okH, fun t => ?_, ext_out h.emb hr.lt h.ext hn0 hr.old, h.size, h.defers⟩
  rcases ofL_get (fun t => loc st.H ids lent (st.fr t)) ks t with h1 | ⟨h1, h2⟩
  · simp only [St.relo]; rw [h1]; exact VR.junk _
  · simp only [St.relo]; rw [h2]; exact loc_VR ok hsub (okF_mem hr.okF t h1) (h.fr t)

include ok in
theorem gh_sound {w : World} {g : Nat → Value} {st st' : St K El} (h : Gh st st') : ∀ {E : Env}, Emb S E st.H w → (∀ t, VRv S E w (st.fr t) (g t)) → ∃ E', Emb S E' st'.H w ∧ Ext E w E' w ∧ ∀ t, VRv S E' w (st'.fr t) (g t) := by
  induction h with
  | refl st => exact fun {E} he hf => ⟨E, he, Ext.refl, hf⟩
  | @slot st st' t k h r ih =>
    intro E he hf
    have hx : Ext E w ⟨E.ρ ++ [.nil], E.F⟩ w := ext_nil rfl rfl rfl rfl
    obtain ⟨E', h1, h2, h3⟩ := ih (emb_nil ok he k) (fun u => by
      simp only [upd]
      by_cases hu : u = t
      · subst hu
        rw [if_pos rfl]
        have := hf u
        rw [h] at this
        have hv : VR S E w .nils (g u) := this
        generalize g u = v at hv
        cases hv
        exact VR.ownNil (by rw [← he.len]; simp)
      · rw [if_neg hu]; exact VRv.mono ok hx (hf u))
    exact ⟨E', h1, hx.trans h2, h3⟩
  | @cell st st' i j k vs h hj r ih =>
    intro E he hf
    have hx : Ext E w ⟨E.ρ ++ [.nil], E.F⟩ w := ext_nil rfl rfl rfl rfl
    have hn := emb_nil ok he k
    have hi : i < st.H.length := (List.getElem?_eq_some_iff.1 h).1
    obtain ⟨E', h1, h2, h3⟩ := ih (E := ⟨E.ρ ++ [.nil], E.F⟩) ⟨by simp [he.len], fun i' o l ho hl => by
      simp only at ho
      by_cases hii : i' = i
      · subst hii
        rw [List.getElem?_append_left (by simpa using hi), List.getElem?_set_self hi] at ho
        cases ho
        have hor := hn.obj i' _ l (by rw [List.getElem?_append_left hi]; exact h) hl
        cases l with
        | blk b =>
          obtain ⟨c, e, k1, k2, k3⟩ := hor
          refine ⟨c, e, k1, by simp [k2], fun m u hu => ?_⟩
          by_cases hm : m = j
          · subst hm
            have hlt := (List.getElem?_eq_some_iff.1 hj).1
            rw [List.getElem?_set_self hlt] at hu
            cases hu
            obtain ⟨v, v1, _, v3⟩ := k3 m _ hj
            cases v3
            exact ⟨_, v1, rfl, VR.ownNil (by rw [← he.len]; simp)⟩
          · rw [List.getElem?_set_ne (Ne.symm hm)] at hu
            exact k3 m u hu
        | gone => exact hor.elim
        | nil => exact hor.elim
      · refine hn.obj i' o l ?_ hl
        rcases Nat.lt_or_ge i' st.H.length with hlt | hge
        · rw [List.getElem?_append_left (by simpa using hlt), List.getElem?_set_ne (Ne.symm hii)] at ho
          rw [List.getElem?_append_left hlt]; exact ho
        · rw [List.getElem?_append_right (by simpa using hge)] at ho
          rw [List.getElem?_append_right hge]; simpa using ho, hn.inj, hn.lt, hn.F, hn.gl⟩ (fun u => VRv.mono ok hx (hf u))
    exact ⟨E', h1, hx.trans h2, h3⟩

include ok in
theorem hgh_sound {E : Env} {w : World} {H H' : Heap K El} (h : HGh S H H') : Emb S E H w → Emb S E H' w := by
  have key : ∀ {H : Heap K El} {i : Nat} {o o' : AO K El}, Emb S E H w → H[i]? = some o → (∀ l, E.ρ[i]? = some l → OR S E w o l → OR S E w o' l) → Emb S E (H.set i o') w := by
    intro H i o o' he hi ho
    refine ⟨by rw [List.length_set]; exact he.len, fun j q l hj hl => ?_, he.inj, he.lt, he.F, he.gl⟩
    by_cases hji : j = i
    · subst hji
      rw [List.getElem?_set_self (List.getElem?_eq_some_iff.1 hi).1] at hj
      cases hj
      exact ho l hl (he.obj j o l hi hl)
    · rw [List.getElem?_set_ne (Ne.symm hji)] at hj
      exact he.obj j q l hj hl
  induction h with
  | refl H => exact id
  | openx i e k xs h he r ih =>
    intro hE
    refine ih (key hE h fun l hl hor => ?_)
    have hg : xs[e]? = some (xs.getD e (S.zero k)) := by simp [List.getD, List.getElem?_eq_getElem he]
    cases l with
    | gone => exact hor.elim
    | nil => have : xs = [] := hor; rw [this] at he; simp at he
    | blk b =>
      obtain ⟨c, h1, h2, h3⟩ := hor
      exact ⟨c, h1, h2, he, ok.enc_len _ _, fun j x _ hx => h3 j x hx, fun t u hu => let ⟨v, k1, k2⟩ := h3 e _ hg t u hu; ⟨v, k1, ok.one _ _ _ (mem_of_getElem? hu), k2⟩⟩
  | closex i e k xs vs x h hx r ih =>
    intro hE
    refine ih (key hE h fun l hl hor => ?_)
    cases l with
    | gone => exact hor.elim
    | nil => exact hor.elim
    | blk b =>
      obtain ⟨c, h1, h2, he, _, h5, h6⟩ := hor
      refine ⟨c, h1, by rw [List.length_set]; exact h2, fun j y hy t u hu => ?_⟩
      by_cases hj : j = e
      · subst hj
        rw [List.getElem?_set_self he] at hy
        cases hy
        rw [hx] at hu
        obtain ⟨v, k1, _, k3⟩ := h6 t u hu
        exact ⟨v, k1, k3⟩
      · rw [List.getElem?_set_ne (Ne.symm hj)] at hy
        exact h5 j y hj hy t u hu

include ok in
theorem Rel.hgh {E : Env} {st : St K El} {H2 : Heap K El} {w : World} {a : Act} (h : Rel S N E0 w0 E st w a) (hg : HGh S st.H H2) : Rel S N E0 w0 E ⟨st.fr, H2⟩ w a :=
  ⟨hgh_sound ok hg h.emb, h.fr, h.ext, h.size, h.defers⟩

include ok in
theorem Rel.gh {E : Env} {st st' : St K El} {w : World} {a : Act} (h : Rel S N E0 w0 E st w a) (hg : Gh st st') : ∃ E', Rel S N E0 w0 E' st' w a := by
  obtain ⟨E', h1, h2, h3⟩ := gh_sound ok hg h.emb h.fr
  exact ⟨E', h1, h3, h.ext.trans h2, h.size, h.defers⟩

theorem mkDraw_spec : ∀ {l : List Nat} {ops : Array Oper} {before cs : List (Nat × GIns K El)}, mkDraw S N ops before l = some cs → ∀ x ∈ cs, ∃ o i, ops[x.1]? = some o ∧ compileIns S N ops o = some i ∧ x.2 = { i with av := x.2.av }
  | [], _, _, cs, h => by simp [mkDraw] at h; subst h; intro x hx; simp at hx
  | n :: l, ops, before, cs, h => by
    simp only [mkDraw] at h
    split at h
    · rename_i o ho
      split at h
      · rename_i i hi
        split at h
        · rename_i r hr
          simp at h
          subst h
          intro x hx
          rcases List.mem_cons.1 hx with rfl | hx
          · exact ⟨o, i, ho, hi, rfl⟩
          · exact mkDraw_spec hr x hx
        · cases h
      · cases h
    · cases h

theorem wp_loop_n {P : Program} {c : Code} {Q : Exit → Act → World → Prop} (I : Nat → Act → World → Prop)
    (round : ∀ n a w, I n a w → c.wp P (Exit.then (fun a' w' => ∃ m, m < n ∧ I m a' w') Q) a w) {n : Nat} {a : Act} {w : World} (h0 : I n a w) : (Code.loop c).wp P Q a w := by
  intro b k cs
  have key : ∀ n a w, I n a w → ∃ e a' w', Q e a' w' ∧ Arrives P (lone (b.at a (.code c :: .inLoop c :: k)) cs w) b k cs e a' w' := by
    intro n
    induction n using Nat.strongRecOn with
    | _ n ih =>
      intro a w hI
      obtain ⟨e, a₁, w₁, hq, harr⟩ := round n a w hI b (.inLoop c :: k) cs
      cases e with
      | normal =>
        obtain ⟨m, hlt, hI₁⟩ := hq
        obtain ⟨e₂, a₂, w₂, hq₂, harr₂⟩ := ih m hlt a₁ w₁ hI₁
        exact ⟨e₂, a₂, w₂, hq₂, .of_steps (Steps.trans harr (.one step_inLoop)) harr₂⟩
      | exit id => exact ⟨_, a₁, w₁, hq, .pass (x := .inLoop c) rfl (fun _ _ => .inl (by simp)) harr⟩
      | goto l => exact ⟨_, a₁, w₁, hq, .pass (x := .inLoop c) rfl (fun _ _ => .inl (by simp)) harr⟩
      | ret => exact ⟨_, a₁, w₁, hq, .pass (x := .inLoop c) rfl (fun _ _ => .inl (by simp)) harr⟩
      | panic ch => exact ⟨_, a₁, w₁, hq, .pass (x := .inLoop c) rfl (fun _ _ => .inl (by simp)) harr⟩
      | outgrown => exact ⟨_, a₁, w₁, hq, .pass (x := .inLoop c) rfl (fun _ _ => .inl (by simp)) harr⟩
  obtain ⟨e, a', w', hq, harr⟩ := key n a w h0
  exact ⟨e, a', w', hq, .of_steps (.one step_loop) harr⟩

include ok in
theorem code_sound {kf : List Nat} {n0 : Nat} (hn0 : E0.ρ.length = n0) : ∀ (f : Nat) (hs hs' : List (List Nat)) (c : Code) (ac : AC K El), compile S N kf f hs c = some (ac, hs') →
    ∀ (E : Env) (st : St K El) (w : World) (a : Act), Rel S N E0 w0 E st w a → ∀ (Q' : Ex → St K El → Prop), vc S n0 ac st Q' → ∀ (Q : Exit → Act → World → Prop),
      (∀ e E' st' w' a', Rel S N E0 w0 E' st' w' a' → Q' e st' → Q e.to a' w') → c.wp S.P Q a w
  | 0, _, _, _, _, hc => by simp [compile] at hc
  | f + 1, hs, hs', c, ac, hc => by
    intro E st w a hr Q' hv Q hn
    cases c with
    | skip => simp [compile] at hc; obtain ⟨rfl, rfl⟩ := hc; exact wp_skip (hn .normal _ _ _ _ hr hv)
    | label l => simp [compile] at hc; obtain ⟨rfl, rfl⟩ := hc; exact wp_label (hn .normal _ _ _ _ hr hv)
    | exit id => simp [compile] at hc; obtain ⟨rfl, rfl⟩ := hc; exact wp_exit (hn (.exit id) _ _ _ _ hr hv)
    | ret => simp [compile] at hc; obtain ⟨rfl, rfl⟩ := hc; exact wp_ret (hn .ret _ _ _ _ hr hv)
    | goto l => simp [compile] at hc; obtain ⟨rfl, rfl⟩ := hc; exact wp_goto (hn (.goto l) _ _ _ _ hr hv)
    | rangeFunc _ _ _ _ => simp [compile] at hc; obtain ⟨rfl, rfl⟩ := hc; exact hv.elim
    | refuse _ => simp [compile] at hc; obtain ⟨rfl, rfl⟩ := hc; exact hv.elim
    | region id ops draw =>
      simp only [compile] at hc
      cases draw with
      | false =>
        simp only [Bool.false_eq_true, if_false] at hc
        split at hc
        · rename_i is his
          simp at hc; obtain ⟨rfl, rfl⟩ := hc
          exact wp_region_list (list_sound ok ops.toList is his hr hv fun E' st' w' a' hr' hk => hn .normal _ _ _ _ (hr'.keep kf) hk)
        · simp at hc; obtain ⟨rfl, rfl⟩ := hc; exact hv.elim
      | true =>
        simp only [if_true] at hc
        split at hc
        · rename_i cs hcs
          split at hc
          · rename_i hd
            simp at hc; obtain ⟨rfl, rfl⟩ := hc
            have hd0 := hd
            simp only [drawOK, Bool.and_eq_true, beq_iff_eq] at hd0
            have hlen : cs.length = ops.size := hd0.1.1.1.1.1
            have hun : ∀ x ∈ cs, un_ (Array.replicate ops.size false) x.1 = true := by
              intro x hx
              have : x.1 < ops.size := by simpa using List.all_eq_true.1 hd0.1.1.1.2 x hx
              simp [un_, Array.getD, this]
            have hfil : cs.filter (fun x => un_ (Array.replicate ops.size false) x.1) = cs := List.filter_eq_self.2 hun
            have hx : Ext E w E { w with drawn := w.drawn + 1 } := ext_of_eq rfl rfl rfl rfl
            have hr' : Rel S N E0 w0 E st { w with drawn := w.drawn + 1 } a := by
              have hj := hr.next ok (E' := E) (w' := { w with drawn := w.drawn + 1 }) (H' := st.H) ⟨hr.emb.len, fun i o l ho hl => OR.mono ok hx (fun _ _ => rfl) (hr.emb.obj i o l ho hl), hr.emb.inj, hr.emb.lt, hr.emb.F, hr.emb.gl.ext ok hx⟩ hx (dst := none) (fun d hd => by cases hd) (r := .junk) (v := undef) (VR.junk _)
              exact hj
            refine wp_region_any ok.mixed ?_
            refine any_sound ok hd (mkDraw_spec hcs) (fun E' st' w' a' hr' hk => hn .normal _ _ _ _ (hr'.keep kf) hk) ops.size _ (by simp) (by rw [hfil, hlen]) (fun n hn' => ?_) hr' (by rw [hfil]; exact hv)
            simp [Array.getD] at hn'
          · simp at hc; obtain ⟨rfl, rfl⟩ := hc; exact hv.elim
        · simp at hc; obtain ⟨rfl, rfl⟩ := hc; exact hv.elim
    | seq x y =>
      simp only [compile] at hc
      split at hc
      · rename_i x' h1 hx
        split at hc
        · rename_i y' h2 hy
          simp at hc; obtain ⟨rfl, rfl⟩ := hc
          refine wp_seq (code_sound hn0 f _ _ x x' hx E st w a hr _ hv _ fun e E' st' w' a' hr' hk => ?_)
          cases e with
          | normal => exact code_sound hn0 f _ _ y y' hy E' st' w' a' hr' _ hk _ hn
          | exit id => exact hn (.exit id) _ _ _ _ hr' hk
          | ret => exact hn .ret _ _ _ _ hr' hk
          | goto l => exact hn (.goto l) _ _ _ _ hr' hk
        · cases hc
      · cases hc
    | cond c x y =>
      simp only [compile] at hc
      split at hc
      · rename_i c' x' h1 hcc hx
        split at hc
        · rename_i y' h2 hy
          simp at hc; obtain ⟨rfl, rfl⟩ := hc
          simp only [vc] at hv
          obtain ⟨b, hb, hv⟩ := onB_some hv
          have hcv := cOpd_sound hcc hr.fr
          rw [hb] at hcv
          have hbv := VR.bool_inv (show VR S E w _ _ from hcv)
          rw [cas_iff] at hv
          refine wp_cond_split hbv (fun hb => ?_) (fun hb => ?_)
          · exact code_sound hn0 f _ _ x x' hx E st w a hr _ (hv.1 hb) _ hn
          · exact code_sound hn0 f _ _ y y' hy E st w a hr _ (hv.2 hb) _ hn
        · cases hc
      · cases hc
    | block id x =>
      simp only [compile] at hc
      split at hc
      · rename_i x' h1 hx
        simp at hc; obtain ⟨rfl, rfl⟩ := hc
        refine wp_block (code_sound hn0 f _ _ x x' hx E st w a hr _ hv _ fun e E' st' w' a' hr' hk => ?_)
        cases e with
        | normal => exact hn .normal _ _ _ _ hr' hk
        | exit j =>
          simp only [Ex.to, Exit.inBlock]
          by_cases hj : j = id
          · simp only [hj, if_true] at hk ⊢; exact hn .normal _ _ _ _ hr' hk
          · simp only [hj, if_false] at hk ⊢; exact hn (.exit j) _ _ _ _ hr' hk
        | ret => exact hn .ret _ _ _ _ hr' hk
        | goto l => exact hn (.goto l) _ _ _ _ hr' hk
      · cases hc
    | loop x =>
      simp only [compile] at hc
      split at hc
      · rename_i ks hs0
        split at hc
        · rename_i x' h1 hx
          simp at hc; obtain ⟨rfl, rfl⟩ := hc
          obtain ⟨Inv, μ, ⟨st0, hgh, ids, lent, hre, H2, hgx, hinv⟩, hround⟩ := hv
          obtain ⟨Eg, hrg⟩ := hr.gh ok hgh
          refine wp_loop_n (fun n a w => ∃ E st, Rel S N E0 w0 E st w a ∧ Inv st ∧ μ st = n) (fun n a1 w1 hI => ?_) (n := μ ⟨(st0.relo ids lent ks).fr, H2⟩) ⟨_, _, (hrg.relo ok hn0 hre).hgh ok hgx, hinv, rfl⟩
          obtain ⟨E1, st1, hr1, hinv1, rfl⟩ := hI
          refine code_sound hn0 f _ _ x x' hx E1 st1 w1 a1 hr1 _ (hround st1 hinv1) _ fun e E' st' w' a' hr' hk => ?_
          cases e with
          | normal =>
            obtain ⟨ids', lent', hre', H2', hgx', hinv', hlt⟩ := hk
            exact ⟨_, hlt, _, _, (hr'.relo ok hn0 hre').hgh ok hgx', hinv', rfl⟩
          | exit id => exact hn (.exit id) _ _ _ _ hr' hk
          | ret => exact hn .ret _ _ _ _ hr' hk
          | goto l => exact hn (.goto l) _ _ _ _ hr' hk
        · cases hc
      · cases hc
    | scope x =>
      simp only [compile] at hc
      split at hc
      · rename_i l hl
        split at hc
        · rename_i r x' h1 hfl hx
          split at hc
          · rename_i r' h2 hrr
            simp at hc; obtain ⟨rfl, rfl⟩ := hc
            refine wp_scope_jumps l (fun a' w' => ∃ E' st', Rel S N E0 w0 E' st' w' a' ∧ vc S n0 r' st' fun e st'' => match e with | .goto _ => False | e => Q' e st'') (fun _ _ => 0) hfl ?_ (fun a' w' hJ => ?_)
            · refine code_sound hn0 f _ _ x x' hx E st w a hr _ hv _ fun e E' st' w' a' hr' hk => ?_
              cases e with
              | normal => exact hn .normal _ _ _ _ hr' hk
              | exit id => exact hn (.exit id) _ _ _ _ hr' hk
              | ret => exact hn .ret _ _ _ _ hr' hk
              | goto l' => exact ⟨hk.1, E', st', hr', hk.2⟩
            · obtain ⟨E', st', hr', hv'⟩ := hJ
              refine code_sound hn0 f _ _ r r' hrr E' st' w' a' hr' _ hv' _ fun e E2 st2 w2 a2 hr2 hk => ?_
              cases e with
              | normal => exact hn .normal _ _ _ _ hr2 hk
              | exit id => exact hn (.exit id) _ _ _ _ hr2 hk
              | ret => exact hn .ret _ _ _ _ hr2 hk
              | goto l' => exact hk.elim
          · cases hc
        · cases hc
      · cases hc

/-! ### Functions -/
def cRes (P : Program) : List ResultVar → Option (List (Nat × Option (Nat × Bool)))
  | [] => some []
  | .tmp t :: r => (cRes P r).map ((t, none) :: ·)
  | .cell t ty :: r => match sizeA P ty, cRes P r with
    | some s, some l => some ((t, some s) :: l)
    | _, _ => none

def resVC (S : Seat K El) (st : St K El) : List (Nat × Option (Nat × Bool)) → (List (AV K El) → Prop) → Prop
  | [], k => k []
  | (t, none) :: r, k => resVC S st r fun vs => k (st.fr t :: vs)
  | (t, some (n, ag)) :: r, k => rd S st.H (st.fr t) n fun us => resVC S st r fun vs => k ((if ag then .agg us else us.headD .junk) :: vs)

def oneOr (vs : List (AV K El)) : AV K El := match vs with
  | [v] => v
  | vs => .tup vs

def entryF (vs : List (AV K El)) : Nat → AV K El := fun t => vs.getD t .junk

def tabF (n : Nat) (fr : Nat → AV K El) : List (AV K El) := (List.range n).map fr

/-- What a function's end asks for. -/
def endVC (S : Seat K El) (n0 : Nat) (res : List (Nat × Option (Nat × Bool))) (R : AV K El → Heap K El → Prop) (e : Ex) (st : St K El) : Prop := match e with
  | .exit _ | .goto _ => False
  | _ => resVC S st res fun vs => ∃ st', Gh ⟨entryF vs, st.H⟩ st' ∧ ∃ ids lent, OkRelo n0 ⟨st.fr, st'.H⟩ ids lent [] ∧ okV st'.H ids lent (oneOr (tabF vs.length st'.fr)) ∧ (tabF vs.length st'.fr).all AV.ntup = true ∧
      R (loc st'.H ids lent (oneOr (tabF vs.length st'.fr))) (locH st'.H ids lent)

def resGet (tmps : Array Value) : ResultVar → Sem Value
  | .tmp t => pure (tmps.getD t undef)
  | .cell a t => do loadVar t (← asAddr (tmps.getD a undef))

theorem results_eq (fn : Func) (tmps : Array Value) : results fn tmps = (do
    let vs ← fn.results.mapM (resGet tmps)
    pure (if h : vs.size = 1 then vs[0] else .tuple vs)) := by
  unfold results
  congr 1

include ok in
theorem res_sound {E : Env} {st : St K El} {w : World} {a : Act} (h : Rel S N E0 w0 E st w a) : ∀ (rs : List ResultVar) (res : List (Nat × Option (Nat × Bool))), cRes S.P rs = some res → ∀ {k : List (AV K El) → Prop}, resVC S st res k →
    ∃ vs vals, k vs ∧ vals.length = vs.length ∧ (∀ (j : Nat) u v, vs[j]? = some u → vals[j]? = some v → VRv S E w u v) ∧ (rs.mapM (resGet a.tmps)).run S.P w = .ok vals w
  | [], res, hc, k, hk => by simp [cRes] at hc; subst hc; exact ⟨[], [], hk, rfl, fun j u v hu => by simp at hu, by simp⟩
  | .tmp t :: r, res, hc, k, hk => by
    simp only [cRes, Option.map_eq_some_iff] at hc
    obtain ⟨res', hr', rfl⟩ := hc
    obtain ⟨vs, vals, h1, h2, h3, h4⟩ := res_sound h r res' hr' hk
    refine ⟨_, a.tmps.getD t undef :: vals, h1, by simp [h2], fun j u v hu hv => ?_, ?_⟩
    · cases j with
      | zero => simp at hu hv; subst hu; subst hv; have := h.fr t; simpa [Array.getD_eq_getD_getElem?] using this
      | succ j => exact h3 j u v (by simpa using hu) (by simpa using hv)
    · simp only [List.mapM_cons, resGet, Sem.run_bind, Sem.run_pure, Result.andThen_ok, h4]
  | .cell p t :: r, res, hc, k, hk => by
    simp only [cRes] at hc
    split at hc
    · rename_i s l hs hl
      simp at hc; subst hc
      obtain ⟨n, ag⟩ := s
      obtain ⟨s1, s2, s3⟩ := sizeA_some hs w
      simp only [resVC] at hk
      have hp : (st.fr p).plain = true := by cases hq : st.fr p <;> first | rfl | (rw [hq] at hk; exact hk.elim)
      obtain ⟨us, b, oo, cs, hk, hv, hul, hcl, hus, hcs⟩ := rd_sound ok h.emb hk ((h.fr p).one_of hp)
      obtain ⟨vs, vals, h1, h2, h3, h4⟩ := res_sound h r l hl hk
      have hll := run_loadCells_list (P := S.P) w ⟨b, oo, none⟩ cs (fun j v hj => by rw [add_lit]; exact hcs j v hj)
      rw [hcl] at hll
      have key : ∃ v, (loadVar t ⟨b, oo, none⟩).run S.P w = .ok v w ∧ VRv S E w (if ag then .agg us else us.headD .junk) v := by
        cases ag with
        | true => exact ⟨.agg cs.toArray, by simp [loadVar, s1, s2, hll], cs.toArray, rfl, by simp [hul, hcl], fun j u hu => by simpa using hus j u hu⟩
        | false =>
          have h1 := s3 rfl
          subst h1
          match us, hul, cs, hcl with
          | [u], _, [c], _ =>
            obtain ⟨c', k1, k2, k3⟩ := hus 0 u rfl
            simp at k1
            subst k1
            have hc := hcs 0 c rfl
            rw [Nat.add_zero] at hc
            exact ⟨c, by simp [loadVar, s2, hc], VR2.to (k3.one_of k2)⟩
      obtain ⟨v, hv1, hv2⟩ := key
      refine ⟨_, v :: vals, h1, by simp [h2], fun j u v' hu hv' => ?_, ?_⟩
      · cases j with
        | zero =>
          rw [List.getElem?_cons_zero] at hu hv'
          cases hu; cases hv'
          exact hv2
        | succ j => exact h3 j u v' (by simpa using hu) (by simpa using hv')
      · have ha : (resGet a.tmps (.cell p t)).run S.P w = .ok v w := by
          have hav : (asAddr (a.tmps.getD p undef)).run S.P w = .ok ⟨b, oo, none⟩ w := by
            have hv' : a.tmps.getD p undef = .pointer (some ⟨b, oo, none⟩) := hv
            rw [hv']; rfl
          simp only [resGet, Sem.run_bind, hav, Result.andThen_ok, hv1]
        simp only [List.mapM_cons, Sem.run_bind, ha, Sem.run_pure, Result.andThen_ok, h4]
    · cases hc

include ok in
theorem spec_of_vc {f : Nat} {fn : Func} (hf : S.P.funcs[f]? = some fn) {c : Code} (hb : fn.body = some c) {kf : List Nat} {hs hs' : List (List Nat)} {fuel : Nat} {ac : AC K El} (hc : compile S fn.ntmps kf fuel hs c = some (ac, hs'))
    {res : List (Nat × Option (Nat × Bool))} (hres : cRes S.P fn.results.toList = some res) {vs : List (AV K El)} {H : Heap K El} {R : AV K El → Heap K El → Prop} (hargs : vs.length ≤ fn.ntmps)
    (h : vc S H.length ac ⟨entryF vs, H⟩ (endVC S H.length res R)) : Spec S f vs H R := by
  intro E w args hE hsz hva
  refine calls_of_wp hf hb ?_
  refine code_sound ok (E0 := E) (w0 := w) (N := fn.ntmps) hE.len fuel hs hs' c ac hc E ⟨entryF vs, H⟩ w _ ⟨hE, fun t => ?_, Ext.refl, by simp; omega, rfl⟩ _ h _ fun e E' st' w' a' hr hk => ?_
  · simp only [entryF]
    cases hq : vs[t]? with
    | none =>
      have : vs.getD t .junk = .junk := by simp [List.getD, hq]
      rw [this]; exact VR.junk _
    | some u =>
      have : vs.getD t .junk = u := by simp [List.getD, hq]
      rw [this]
      obtain ⟨v, hv1, hv2⟩ := hva t u hq
      have htl : t < args.size := (Array.getElem?_eq_some_iff.1 hv1).1
      have : (args ++ Array.replicate (fn.ntmps - args.size) undef).getD t undef = v := by
        rw [Array.getD_eq_getD_getElem?, Array.getElem?_append_left htl, hv1]; rfl
      rw [this]
      exact hv2.to
  · have key : endVC S H.length res R .ret st' → a'.defers = [] ∧ ∃ v, (results fn a'.tmps).run S.P w' = .ok v w' ∧ ∃ v' r E' H', Ending.returned v = .returned v' ∧ R r H' ∧ VRv S E' w' r v' ∧ Emb S E' H' w' ∧ Ext E w E' w' := by
      intro hk
      simp only [endVC] at hk
      obtain ⟨vs0, vals, ⟨st2, hgh, ids, lent, hre, hokv, hnt', hR⟩, h20, h30, h4⟩ := res_sound ok hr fn.results.toList res hres hk
      obtain ⟨E2, hemb2, hx2, hfr2⟩ := gh_sound ok (g := fun t => vals.getD t undef) hgh hr.emb (fun t => by
        simp only [entryF]
        rcases Nat.lt_or_ge t vs0.length with hlt | hge
        · have h1 : vs0.getD t .junk = vs0[t] := by simp [List.getD, hlt]
          have h2 : vals.getD t undef = vals[t]'(by omega) := by simp [List.getD, show t < vals.length by omega]
          rw [h1, h2]
          exact h30 t _ _ (List.getElem?_eq_getElem hlt) (List.getElem?_eq_getElem _)
        · have h1 : vs0.getD t .junk = .junk := by simp [List.getD, List.getElem?_eq_none hge]
          rw [h1]; exact VR.junk _)
      have hr2 : Rel S fn.ntmps E w E2 ⟨st'.fr, st2.H⟩ w' a' := ⟨hemb2, fun t => VRv.mono ok hx2 (hr.fr t), hr.ext.trans hx2, hr.size, hr.defers⟩
      have hrel := hr2.relo ok hE.len hre
      have hsub : Sub S E2 st2.H w' ids lent (outEnv E2 ids) := .outEnv hemb2 hre.nodup hre.lt
      have h2 : vals.length = (tabF vs0.length st2.fr).length := by simp [tabF, h20]
      have h3 : ∀ (j : Nat) u v, (tabF vs0.length st2.fr)[j]? = some u → vals[j]? = some v → VRv S E2 w' u v := by
        intro j u v hu hv
        have hj := (List.getElem?_eq_some_iff.1 hv).1
        have := hfr2 j
        have hvv : vals.getD j undef = v := by simp [List.getD, hv]
        have huu : st2.fr j = u := by simpa [tabF, show j < vs0.length by omega] using hu
        rw [hvv, huu] at this
        exact this
      generalize tabF vs0.length st2.fr = vs' at *
      have hmap : (fn.results.mapM (resGet a'.tmps)).run S.P w' = .ok vals.toArray w' := by
        rw [Array.mapM_eq_mapM_toList]
        simp only [Sem.run_map, h4, Result.andThen_ok]
      refine ⟨hr.defers, (if h : vals.toArray.size = 1 then vals.toArray[0] else .tuple vals.toArray), ?_, _, _, outEnv E2 ids, locH st2.H ids lent, rfl, hR, ?_, hrel.emb, hrel.ext⟩
      · rw [results_eq]
        simp only [Sem.run_bind]
        rw [hmap]
        rfl
      · refine loc_VR ok hsub hokv ?_
        have htwo : ∀ (j : Nat) u v, vs'[j]? = some u → vals[j]? = some v → VR2 S E2 w' u v := fun j u v hu hv => ntup_two (h3 j u v hu hv) (List.all_eq_true.1 hnt' u (mem_of_getElem? hu))
        match vs', vals, h2 with
        | [u], [v], _ => exact h3 0 u v rfl rfl
        | [], [], _ => exact ⟨#[], rfl, rfl, fun j u hu => by simp at hu⟩
        | u :: u2 :: us, v :: v2 :: vr, h2 =>
          refine ⟨(v :: v2 :: vr).toArray, by simp, by simpa using h2, fun j x hx => ?_⟩
          have hj : j < (v :: v2 :: vr).length := by rw [h2]; exact (List.getElem?_eq_some_iff.1 hx).1
          exact ⟨(v :: v2 :: vr)[j], by simp, htwo j x _ hx (List.getElem?_eq_getElem hj)⟩
    cases e with
    | normal => exact key hk
    | ret => exact key hk
    | exit id => exact hk.elim
    | goto l => exact hk.elim

end
end Sh
end Go.Proofs.YtomdfaelgcefdaaGreatDoor
