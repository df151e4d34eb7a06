/- Sh18 Sh19 Sh20 Sh21. -/
import Derived.ScopeJumps
import Derived.Test.YtomdfaelgcefdaaGreatDoorGaf
set_option maxRecDepth 100000
set_option maxHeartbeats 64000000
namespace Go.Proofs.YtomdfaelgcefdaaGreatDoor
open Go
namespace Sh
variable {K : Type} {El : K → Type}
inductive AC (K : Type) (El : K → Type) where
 | skip
 | reg (is : List (GIns K El)) (ks : List Nat)
 | seq (a b : AC K El)
 | cond (c : Opd K El) (a b : AC K El)
 | block (id : Nat) (a : AC K El)
 | loop (a : AC K El) (ks : List Nat)
 | exit (id : Nat)
 | ret
 | goto (l : Nat)
 | scope (a : AC K El) (l : Nat) (r : AC K El)
 | bad
 | frz (ks : List Nat)
 | tree (t : OT K El) (ks : List Nat)
def mkIns (S : Seat K El) (N : Nat) (ops : Array Oper) (before : List (Nat × GIns K El)) (n : Nat) : Option (GIns K El) := match ops[n]? with
 | some o => match compileIns S N ops o with
  | some i => some { i with av := if i.p.quiet then [] else ((before.filter fun y => !(anc ops ops.size n).contains y.1).flatMap fun y => y.2.uses).eraseDups }
  | none => none
 | none => none
def readyT (ops : Array Oper) (L : List Nat) : List Nat := (List.range ops.size).filter fun n => !L.contains n && (preds ops n).all fun e => L.contains e
def quietT (S : Seat K El) (ops : Array Oper) (i : Nat) : Bool := match ops[i]? with
 | some o => match compileOpB S o with
  | some (p,_) => p.quiet
  | none => false
 | none => false
def mkT (S : Seat K El) (N : Nat) (ops : Array Oper) : Nat → List (Nat × GIns K El) → List Nat → List Nat → Option (OT K El)
 | 0,_,_,_ => none
 | f + 1,before,L,[] => match (readyT ops L).find? (quietT S ops) with
  | some n => match mkIns S N ops before n with
   | some i => match mkT S N ops f (before ++ [(n,i)]) (n :: L) [] with
    | some t => some (.q n i t)
    | none => none
   | none => none
  | none => match readyT ops L with
   | [] => some .done
   | m :: r => mkT S N ops f before L (m :: r)
 | f + 1,before,L,n :: r => match mkIns S N ops before n with
  | some i => match mkT S N ops f before (n :: L) [] with
   | some t => match r with
    | [] => some (.one n i t)
    | m :: r' => match mkT S N ops f before L (m :: r') with
     | some o => some (.br n i t o)
     | none => none
   | none => none
  | none => none
def treeOK (ops : Array Oper) (t : OT K El) : Bool := ((List.range ops.size).all fun n => (preds ops n).all fun e => e < n) && chkT ops [] [] [] t
theorem mkIns_spec {S : Seat K El} {N : Nat} {ops : Array Oper} {before : List (Nat × GIns K El)} {n : Nat} {i : GIns K El} (h : mkIns S N ops before n = some i) : OpAt S N ops n i := by
 unfold mkIns at h;split at h
 · rename_i o ho;split at h
   · rename_i i0 hi;cases h;exact ⟨o,i0,ho,hi,rfl⟩
   · cases h
 · cases h
theorem mkT_spec {S : Seat K El} {N : Nat} {ops : Array Oper} : ∀ (f : Nat) {before : List (Nat × GIns K El)} {L todo : List Nat} {t : OT K El},mkT S N ops f before L todo = some t → t.All (OpAt S N ops)
 | 0,_,_,_,_,h => by simp [mkT] at h
 | f + 1,before,L,[],t,h => by
  simp only [mkT] at h;split at h
  · split at h
    · rename_i i hi;split at h
      · rename_i t' ht;cases h;exact ⟨mkIns_spec hi,mkT_spec f ht⟩
      · cases h
    · cases h
  · split at h
    · cases h; trivial
    · exact mkT_spec f h
 | f + 1,before,L,n :: r,t,h => by
  simp only [mkT] at h;split at h
  · rename_i i hi;split at h
    · rename_i t' ht;split at h
      · cases h;exact ⟨mkIns_spec hi,mkT_spec f ht⟩
      · split at h
        · rename_i o ho;cases h;exact ⟨mkIns_spec hi,mkT_spec f ht,mkT_spec f ho⟩
        · cases h
    · cases h
  · cases h
def canonGo (n : Nat) (pr : Nat → List Nat) (quiet : Nat → Bool) : Nat → List Nat → List Nat
 | 0,done => done.reverse
 | f + 1,done =>
  let cand := (List.range n).filter fun i => !done.contains i && (pr i).all fun e => done.contains e
  match cand.find? quiet with
  | some i => canonGo n pr quiet f (i :: done)
  | none => match cand with
   | i :: _ => canonGo n pr quiet f (i :: done)
   | [] => done.reverse
def quietAt (S : Seat K El) (ops : Array Oper) (i : Nat) : Bool := match ops[i]? with
 | some o => match compileOpB S o with
  | some (p,_) => p.quiet
  | none => false
 | none => false
def mkDraw (S : Seat K El) (N : Nat) (ops : Array Oper) (before : List (Nat × GIns K El)) : List Nat → Option (List (Nat × GIns K El))
 | [] => some []
 | n :: l => match ops[n]? with
  | some o => match compileIns S N ops o with
   | some i =>
    let av := if i.p.quiet then [] else ((before.filter fun y => !(anc ops ops.size n).contains y.1).flatMap fun y => y.2.uses).eraseDups
    let x : Nat × GIns K El := (n,{ i with av := av })
    match mkDraw S N ops (before ++ [x]) l with
    | some r => some (x :: r)
    | none => none
   | none => none
  | none => none
def labOf : Code → Option Nat
 | .label l => some l
 | .seq a b => match labOf a with
  | some l => some l
  | none => labOf b
 | _ => none
def markOf (id : Nat) : List (List Nat) → Option (List Nat × List (List Nat))
 | (m :: b :: ks) :: hs => match Nat.beq m 99999,Nat.beq b id with
  | true,true => some (ks,hs)
  | _,_ => none
 | _ => none
def compile (S : Seat K El) (N : Nat) (kf : List Nat) : Nat → List (List Nat) → Code → Option (AC K El × List (List Nat))
 | 0,_,_ => none
 | f + 1,hs,c => match c with
  | .skip => some (.skip,hs)
  | .region _ ops draw =>
   if draw then match mkDraw S N ops [] (canonGo ops.size (preds ops) (quietAt S ops) ops.size []) with
    | some cs => if drawOK ops cs then some (.reg (cs.map (·.2)) kf,hs) else match mkT S N ops 100 [] [] [] with
     | some t => if treeOK ops t then some (.tree t kf,hs) else some (.bad,hs)
     | none => some (.bad,hs)
    | none => some (.bad,hs)
   else match compileL S N ops ops.toList with
    | some is => some (.reg is kf,hs)
    | none => some (.bad,hs)
  | .rangeFunc _ _ _ _ => some (.bad,hs)
  | .refuse _ => some (.bad,hs)
  | .seq a b => match compile S N kf f hs a with
   | some (a',hs') => match compile S N kf f hs' b with
    | some (b',hs'') => some (.seq a' b',hs'')
    | none => none
   | none => none
  | .cond c a b => match cOpd c,compile S N kf f hs a with
   | some c',some (a',hs') => match compile S N kf f hs' b with
    | some (b',hs'') => some (.cond c' a' b',hs'')
    | none => none
   | _,_ => none
  | .block id a => match markOf id hs with
   | some (ks,hs1) => match compile S N kf f hs1 a with
    | some (a',hs') => some (.seq (.block id a') (.frz ks),hs')
    | none => none
   | none => match compile S N kf f hs a with
    | some (a',hs') => some (.block id a',hs')
    | none => none
  | .loop a => match hs with
   | ks :: hs => match compile S N kf f hs a with
    | some (a',hs') => some (.loop a' ks,hs')
    | none => none
   | [] => none
  | .exit id => some (.exit id,hs)
  | .ret => some (.ret,hs)
  | .label _ => some (.skip,hs)
  | .goto l => some (.goto l,hs)
  | .scope a => match labOf a with
   | some l => match findLabel a l,compile S N kf f hs a with
    | some r,some (a',hs') => match compile S N kf f hs' r with
     | some (r',hs'') => some (.scope a' l r',hs'')
     | none => none
    | _,_ => none
   | none => none
inductive Ex where
 | normal
 | exit (id : Nat)
 | ret
 | goto (l : Nat)
def keepF (ks : List Nat) (fr : Nat → AV K El) : Nat → AV K El := ofL (ks.map fun t => (t,fr t))
def St.relo (st : St K El) (ids lent ks : List Nat) : St K El := ⟨ofL (ks.map fun t => (t,loc st.H ids lent (st.fr t))),locH st.H ids lent⟩
def okF (H : Heap K El) (ids lent : List Nat) (fr : Nat → AV K El) : List Nat → Prop
 | [] => True
 | t :: r => okV H ids lent (fr t) ∧ okF H ids lent fr r
structure OkRelo (n0 : Nat) (st : St K El) (ids lent ks : List Nat) : Prop where
 nodup : ids.Nodup
 lt : ∀ i ∈ ids,i < st.H.length
 old : ids.take n0 = List.range n0
 okH : okH st.H ids lent ids
 okF : okF st.H ids lent st.fr ks
inductive Gh : St K El → St K El → Prop
 | refl (st : St K El) : Gh st st
 | slot {st st' : St K El} (t : Nat) (k : K) (h : st.fr t = .nils) (r : Gh ⟨upd st.fr (some t) (.own k st.H.length 0 0 .whole),st.H ++ [.row k []]⟩ st') : Gh st st'
 | cell {st st' : St K El} (i j : Nat) (k : K) (vs : List (AV K El)) (h : st.H[i]? = some (.cells vs)) (hj : vs[j]? = some .nils)
     (r : Gh ⟨st.fr,st.H.set i (.cells (vs.set j (.own k st.H.length 0 0 .whole))) ++ [.row k []]⟩ st') : Gh st st'
inductive HGh (S : Seat K El) : Heap K El → Heap K El → Prop
 | refl (H : Heap K El) : HGh S H H
 | openx {H H' : Heap K El} (i e : Nat) (k : K) (xs : List (El k)) (h : H[i]? = some (.row k xs)) (he : e < xs.length) (r : HGh S (H.set i (.rowx k xs e (S.enc k (xs.getD e (S.zero k))))) H') : HGh S H H'
 | closex {H H' : Heap K El} (i e : Nat) (k : K) (xs : List (El k)) (vs : List (AV K El)) (x : El k) (h : H[i]? = some (.rowx k xs e vs)) (hx : S.enc k x = vs) (r : HGh S (H.set i (.row k (xs.set e x))) H') : HGh S H H'
def vc (S : Seat K El) (n0 : Nat) : AC K El → St K El → (Ex → St K El → Prop) → Prop
 | .skip,st,Q => Q .normal st
 | .reg is ks,st,Q => vcL S is st fun st' => Q .normal ⟨keepF ks st'.fr,st'.H⟩
 | .seq a b,st,Q => vc S n0 a st fun e st' => match e with
  | .normal => vc S n0 b st' Q
  | e => Q e st'
 | .cond c a b,st,Q => onB (opdV st.fr c) fun t => cas t (vc S n0 a st Q) (vc S n0 b st Q)
 | .block id a,st,Q => vc S n0 a st fun e st' => match e with
  | .exit j => if j = id then Q .normal st' else Q (.exit j) st'
  | e => Q e st'
 | .loop a ks,st,Q => ∃ (Inv : St K El → Prop) (μ : St K El → Nat),(∃ st0,Gh st st0 ∧ ∃ ids lent,OkRelo n0 st0 ids lent ks ∧ ∃ H2,HGh S (st0.relo ids lent ks).H H2 ∧ Inv ⟨(st0.relo ids lent ks).fr,H2⟩) ∧
     ∀ st1,Inv st1 → vc S n0 a st1 fun e st2 => match e with
      | .normal => ∃ ids lent,OkRelo n0 st2 ids lent ks ∧ ∃ H2,HGh S (st2.relo ids lent ks).H H2 ∧ Inv ⟨(st2.relo ids lent ks).fr,H2⟩ ∧ μ ⟨(st2.relo ids lent ks).fr,H2⟩ < μ st1
      | e => Q e st2
 | .exit id,st,Q => Q (.exit id) st
 | .ret,st,Q => Q .ret st
 | .goto l,st,Q => Q (.goto l) st
 | .bad,_,_ => False
 | .tree t ks,st,Q => vcT S t st fun st' => Q .normal ⟨keepF ks st'.fr,st'.H⟩
 | .frz ks,st,Q => ∃ ids lent,OkRelo n0 st ids lent ks ∧ ∃ H2,HGh S (st.relo ids lent ks).H H2 ∧ Q .normal ⟨(st.relo ids lent ks).fr,H2⟩
 | .scope a l r,st,Q => vc S n0 a st fun e st' => match e with
  | .goto l' => l' = l ∧ vc S n0 r st' fun e st'' => match e with
   | .goto _ => False
   | e => Q e st''
  | e => Q e st'
def Ex.to : Ex → Exit
 | .normal => .normal
 | .exit id => .exit id
 | .ret => .ret
 | .goto l => .goto l
variable {S : Seat K El}
theorem ofL_get (f : Nat → AV K El) : ∀ (ks : List Nat) (t : Nat),ofL (ks.map fun t => (t,f t)) t = .junk ∨ (t ∈ ks ∧ ofL (ks.map fun t => (t,f t)) t = f t)
 | [],t => .inl rfl
 | a :: ks,t => by
  simp only [ofL,List.map_cons,List.lookup_cons]
  by_cases h : t = a
  · subst h; right; simp
  · have hb : (t == a) = false := by simpa using h
    rw [hb]
    rcases ofL_get f ks t with h1 | ⟨h1,h2⟩
    · exact .inl h1
    · exact .inr ⟨List.mem_cons_of_mem _ h1,h2⟩
theorem okF_mem {H : Heap K El} {ids lent : List Nat} {fr : Nat → AV K El} : ∀ {ks : List Nat},okF H ids lent fr ks → ∀ t ∈ ks,okV H ids lent (fr t)
 | [],_,t,h => by simp at h
 | a :: ks,h,t,ht => by
  rcases List.mem_cons.1 ht with rfl | ht
  · exact h.1
  · exact okF_mem h.2 t ht
section
variable (ok : Ok S) {N : Nat} {E0 : Env} {w0 : World}
theorem Rel.keep {E : Env} {st : St K El} {w : World} {a : Act} (h : Rel S N E0 w0 E st w a) (ks : List Nat) : Rel S N E0 w0 E ⟨keepF ks st.fr,st.H⟩ w a :=
 ⟨h.emb,fun t => by
  rcases ofL_get st.fr ks t with h1 | ⟨_,h2⟩
  · simp only [keepF]; rw [h1]; exact VR.junk _
  · simp only [keepF]; rw [h2]; exact h.fr t,h.ext,h.size,h.defers⟩
def outEnv (E : Env) (ids : List Nat) : Env := ⟨ids.map fun i => E.ρ.getD i .gone,E.F⟩
theorem Sub.outEnv {E : Env} {H : Heap K El} {w : World} {ids lent : List Nat} (h : Emb S E H w) (hn : ids.Nodup) (hl : ∀ i ∈ ids,i < H.length) : Sub S E H w ids lent (outEnv E ids) := by
 have back : ∀ (j : Nat) (b : Nat),(Sh.outEnv E ids).ρ[j]? = some (.blk b) → ∃ i,i ∈ ids ∧ E.ρ[i]? = some (.blk b) := by
  intro j b hj;simp only [Sh.outEnv,List.getElem?_map] at hj
  cases hq : ids[j]? with
  | none => rw [hq] at hj; simp at hj
  | some i =>
   rw [hq] at hj; simp at hj;have hlt : i < E.ρ.length := by rw [h.len]; exact hl i (mem_of_getElem? hq)
   refine ⟨i,mem_of_getElem? hq,?_⟩;rw [List.getElem?_eq_getElem hlt];simpa [List.getD,List.getElem?_eq_getElem hlt] using hj
 refine ⟨h,hn,hl,rfl,fun b hb => ⟨fun i hi => ?_,hb.2⟩,fun i b hi hni hb => ⟨fun j hj => ?_,fun hF => (h.F b hF).2 i hb⟩,fun b hF => ⟨(h.F b hF).1,fun j hj => ?_⟩⟩
 · obtain ⟨a,_,ha⟩ := back i b hi;exact hb.1 a ha
 · obtain ⟨a,ha,hab⟩ := back j b hj;have := h.inj a i b hab hb;subst this;exact hni ha
 · obtain ⟨a,_,hab⟩ := back j b hj;exact (h.F b hF).2 a hab
theorem ext_out {E : Env} {H : Heap K El} {w : World} {ids : List Nat} (h : Emb S E H w) (hl : ∀ i ∈ ids,i < H.length) (hx : Ext E0 w0 E w) {n0 : Nat} (hn0 : E0.ρ.length = n0) (hold : ids.take n0 = List.range n0) : Ext E0 w0 (outEnv E ids) w where
 size := hx.size
 keep := hx.keep
 shape := hx.shape
 mono i l hi := by
  have hi0 : i < n0 := by rw [← hn0]; exact (List.getElem?_eq_some_iff.1 hi).1
  have hid : ids[i]? = some i := by
   have : (ids.take n0)[i]? = some i := by rw [hold]; simp [hi0]
   rwa [List.getElem?_take_of_lt hi0] at this
  have hlt : i < E.ρ.length := by rw [h.len]; exact hl i (mem_of_getElem? hid)
  have : (outEnv E ids).ρ[i]? = some E.ρ[i] := by
   simp only [outEnv,List.getElem?_map,hid,Option.map_some,List.getD,List.getElem?_eq_getElem hlt,Option.getD_some]
  rw [this]
  rcases hx.mono i l hi with h1 | h1
  · rw [List.getElem?_eq_getElem hlt] at h1; exact .inl h1
  · rw [List.getElem?_eq_getElem hlt] at h1; exact .inr h1
 fresh j b hj := by
  simp only [outEnv,List.getElem?_map] at hj
  cases hq : ids[j]? with
  | none => rw [hq] at hj; simp at hj
  | some i =>
   rw [hq] at hj; simp at hj;have hlt : i < E.ρ.length := by rw [h.len]; exact hl i (mem_of_getElem? hq)
   refine hx.fresh i b ?_;rw [List.getElem?_eq_getElem hlt];simpa [List.getD,List.getElem?_eq_getElem hlt] using hj
 F := hx.F
 os := hx.os
 tape := hx.tape
 output := hx.output
include ok in
theorem Rel.relo {E : Env} {st : St K El} {w : World} {a : Act} (h : Rel S N E0 w0 E st w a) {n0 : Nat} (hn0 : E0.ρ.length = n0) {ids lent ks : List Nat} (hr : OkRelo n0 st ids lent ks) : Rel S N E0 w0 (outEnv E ids) (st.relo ids lent ks) w a := by
 have hsub : Sub S E st.H w ids lent (outEnv E ids) := .outEnv h.emb hr.nodup hr.lt;refine ⟨loc_Emb ok hsub hr.okH,fun t => ?_,ext_out h.emb hr.lt h.ext hn0 hr.old,h.size,h.defers⟩
 rcases ofL_get (fun t => loc st.H ids lent (st.fr t)) ks t with h1 | ⟨h1,h2⟩
 · simp only [St.relo]; rw [h1]; exact VR.junk _
 · simp only [St.relo]; rw [h2]; exact loc_VR ok hsub (okF_mem hr.okF t h1) (h.fr t)
include ok in
theorem gh_sound {w : World} {g : Nat → Value} {st st' : St K El} (h : Gh st st') : ∀ {E : Env},Emb S E st.H w → (∀ t,VRv S E w (st.fr t) (g t)) → ∃ E',Emb S E' st'.H w ∧ Ext E w E' w ∧ ∀ t,VRv S E' w (st'.fr t) (g t) := by
 induction h with
 | refl st => exact fun {E} he hf => ⟨E,he,Ext.refl,hf⟩
 | @slot st st' t k h r ih =>
  intro E he hf;have hx : Ext E w ⟨E.ρ ++ [.nil],E.F⟩ w := ext_nil rfl rfl rfl rfl
  obtain ⟨E',h1,h2,h3⟩ := ih (emb_nil ok he k) (fun u => by
   simp only [upd]
   by_cases hu : u = t
   · subst hu;rw [if_pos rfl];have := hf u;rw [h] at this;have hv : VR S E w .nils (g u) := this;generalize g u = v at hv;cases hv;exact VR.ownNil (by rw [← he.len]; simp)
   · rw [if_neg hu]; exact VRv.mono ok hx (hf u))
  exact ⟨E',h1,hx.trans h2,h3⟩
 | @cell st st' i j k vs h hj r ih =>
  intro E he hf;have hx : Ext E w ⟨E.ρ ++ [.nil],E.F⟩ w := ext_nil rfl rfl rfl rfl;have hn := emb_nil ok he k;have hi : i < st.H.length := (List.getElem?_eq_some_iff.1 h).1
  obtain ⟨E',h1,h2,h3⟩ := ih (E := ⟨E.ρ ++ [.nil],E.F⟩) ⟨by simp [he.len],fun i' o l ho hl => by
   simp only at ho
   by_cases hii : i' = i
   · subst hii;rw [List.getElem?_append_left (by simpa using hi),List.getElem?_set_self hi] at ho;cases ho;have hor := hn.obj i' _ l (by rw [List.getElem?_append_left hi]; exact h) hl
     cases l with
     | blk b =>
      obtain ⟨c,e,k1,k2,k3⟩ := hor;refine ⟨c,e,k1,by simp [k2],fun m u hu => ?_⟩
      by_cases hm : m = j
      · subst hm;have hlt := (List.getElem?_eq_some_iff.1 hj).1;rw [List.getElem?_set_self hlt] at hu;cases hu;obtain ⟨v,v1,_,v3⟩ := k3 m _ hj;cases v3;exact ⟨_,v1,rfl,VR.ownNil (by rw [← he.len]; simp)⟩
      · rw [List.getElem?_set_ne (Ne.symm hm)] at hu;exact k3 m u hu
     | gone => exact hor.elim
     | nil => exact hor.elim
   · refine hn.obj i' o l ?_ hl
     rcases Nat.lt_or_ge i' st.H.length with hlt | hge
     · rw [List.getElem?_append_left (by simpa using hlt),List.getElem?_set_ne (Ne.symm hii)] at ho;rw [List.getElem?_append_left hlt]; exact ho
     · rw [List.getElem?_append_right (by simpa using hge)] at ho
       rw [List.getElem?_append_right hge]; simpa using ho,hn.inj,hn.lt,hn.F,hn.gl⟩ (fun u => VRv.mono ok hx (hf u))
  exact ⟨E',h1,hx.trans h2,h3⟩
include ok in
theorem hgh_sound {E : Env} {w : World} {H H' : Heap K El} (h : HGh S H H') : Emb S E H w → Emb S E H' w := by
 have key : ∀ {H : Heap K El} {i : Nat} {o o' : AO K El},Emb S E H w → H[i]? = some o → (∀ l,E.ρ[i]? = some l → OR S E w o l → OR S E w o' l) → Emb S E (H.set i o') w := by
  intro H i o o' he hi ho;refine ⟨by rw [List.length_set]; exact he.len,fun j q l hj hl => ?_,he.inj,he.lt,he.F,he.gl⟩
  by_cases hji : j = i
  · subst hji;rw [List.getElem?_set_self (List.getElem?_eq_some_iff.1 hi).1] at hj;cases hj;exact ho l hl (he.obj j o l hi hl)
  · rw [List.getElem?_set_ne (Ne.symm hji)] at hj;exact he.obj j q l hj hl
 induction h with
 | refl H => exact id
 | openx i e k xs h he r ih =>
  intro hE;refine ih (key hE h fun l hl hor => ?_);have hg : xs[e]? = some (xs.getD e (S.zero k)) := by simp [List.getD,List.getElem?_eq_getElem he]
  cases l with
  | gone => exact hor.elim
  | nil => have : xs = [] := hor; rw [this] at he; simp at he
  | blk b =>
   obtain ⟨c,h1,h2,h3⟩ := hor;exact ⟨c,h1,h2,he,ok.enc_len _ _,fun j x _ hx => h3 j x hx,fun t u hu => let ⟨v,k1,k2⟩ := h3 e _ hg t u hu; ⟨v,k1,ok.one _ _ _ (mem_of_getElem? hu),k2⟩⟩
 | closex i e k xs vs x h hx r ih =>
  intro hE;refine ih (key hE h fun l hl hor => ?_)
  cases l with
  | gone => exact hor.elim
  | nil => exact hor.elim
  | blk b =>
   obtain ⟨c,h1,h2,he,_,h5,h6⟩ := hor;refine ⟨c,h1,by rw [List.length_set]; exact h2,fun j y hy t u hu => ?_⟩
   by_cases hj : j = e
   · subst hj;rw [List.getElem?_set_self he] at hy;cases hy;rw [hx] at hu;obtain ⟨v,k1,_,k3⟩ := h6 t u hu;exact ⟨v,k1,k3⟩
   · rw [List.getElem?_set_ne (Ne.symm hj)] at hy;exact h5 j y hj hy t u hu
include ok in
theorem Rel.hgh {E : Env} {st : St K El} {H2 : Heap K El} {w : World} {a : Act} (h : Rel S N E0 w0 E st w a) (hg : HGh S st.H H2) : Rel S N E0 w0 E ⟨st.fr,H2⟩ w a :=
 ⟨hgh_sound ok hg h.emb,h.fr,h.ext,h.size,h.defers⟩
include ok in
theorem Rel.gh {E : Env} {st st' : St K El} {w : World} {a : Act} (h : Rel S N E0 w0 E st w a) (hg : Gh st st') : ∃ E',Rel S N E0 w0 E' st' w a := by
 obtain ⟨E',h1,h2,h3⟩ := gh_sound ok hg h.emb h.fr;exact ⟨E',h1,h3,h.ext.trans h2,h.size,h.defers⟩
theorem mkDraw_spec : ∀ {l : List Nat} {ops : Array Oper} {before cs : List (Nat × GIns K El)},mkDraw S N ops before l = some cs → ∀ x ∈ cs,∃ o i,ops[x.1]? = some o ∧ compileIns S N ops o = some i ∧ x.2 = { i with av := x.2.av }
 | [],_,_,cs,h => by simp [mkDraw] at h; subst h; intro x hx; simp at hx
 | n :: l,ops,before,cs,h => by
  simp only [mkDraw] at h;split at h
  · rename_i o ho;split at h
    · rename_i i hi;split at h
      · rename_i r hr;simp at h;subst h;intro x hx
        rcases List.mem_cons.1 hx with rfl | hx
        · exact ⟨o,i,ho,hi,rfl⟩
        · exact mkDraw_spec hr x hx
      · cases h
    · cases h
  · cases h
theorem wp_loop_n {P : Program} {c : Code} {Q : Exit → Act → World → Prop} (I : Nat → Act → World → Prop)
    (round : ∀ n a w,I n a w → c.wp P (Exit.then (fun a' w' => ∃ m,m < n ∧ I m a' w') Q) a w) {n : Nat} {a : Act} {w : World} (h0 : I n a w) : (Code.loop c).wp P Q a w := by
 intro b k cs
 have key : ∀ n a w,I n a w → ∃ e a' w',Q e a' w' ∧ Arrives P (lone (b.at a (.code c :: .inLoop c :: k)) cs w) b k cs e a' w' := by
  intro n
  induction n using Nat.strongRecOn with
  | _ n ih =>
   intro a w hI;obtain ⟨e,a₁,w₁,hq,harr⟩ := round n a w hI b (.inLoop c :: k) cs
   cases e with
   | normal =>
    obtain ⟨m,hlt,hI₁⟩ := hq;obtain ⟨e₂,a₂,w₂,hq₂,harr₂⟩ := ih m hlt a₁ w₁ hI₁;exact ⟨e₂,a₂,w₂,hq₂,.of_steps (Steps.trans harr (.one step_inLoop)) harr₂⟩
   | exit id => exact ⟨_,a₁,w₁,hq,.pass (x := .inLoop c) rfl (fun _ _ => .inl (by simp)) harr⟩
   | goto l => exact ⟨_,a₁,w₁,hq,.pass (x := .inLoop c) rfl (fun _ _ => .inl (by simp)) harr⟩
   | ret => exact ⟨_,a₁,w₁,hq,.pass (x := .inLoop c) rfl (fun _ _ => .inl (by simp)) harr⟩
   | panic ch => exact ⟨_,a₁,w₁,hq,.pass (x := .inLoop c) rfl (fun _ _ => .inl (by simp)) harr⟩
   | outgrown => exact ⟨_,a₁,w₁,hq,.pass (x := .inLoop c) rfl (fun _ _ => .inl (by simp)) harr⟩
 obtain ⟨e,a',w',hq,harr⟩ := key n a w h0;exact ⟨e,a',w',hq,.of_steps (.one step_loop) harr⟩
include ok in
theorem code_sound {kf : List Nat} {n0 : Nat} (hn0 : E0.ρ.length = n0) : ∀ (f : Nat) (hs hs' : List (List Nat)) (c : Code) (ac : AC K El),compile S N kf f hs c = some (ac,hs') →
    ∀ (E : Env) (st : St K El) (w : World) (a : Act),Rel S N E0 w0 E st w a → ∀ (Q' : Ex → St K El → Prop),vc S n0 ac st Q' → ∀ (Q : Exit → Act → World → Prop),
     (∀ e E' st' w' a',Rel S N E0 w0 E' st' w' a' → Q' e st' → Q e.to a' w') → c.wp S.P Q a w
 | 0,_,_,_,_,hc => by simp [compile] at hc
 | f + 1,hs,hs',c,ac,hc => by
  intro E st w a hr Q' hv Q hn
  cases c with
  | skip => simp [compile] at hc; obtain ⟨rfl,rfl⟩ := hc; exact wp_skip (hn .normal _ _ _ _ hr hv)
  | label l => simp [compile] at hc; obtain ⟨rfl,rfl⟩ := hc; exact wp_label (hn .normal _ _ _ _ hr hv)
  | exit id => simp [compile] at hc; obtain ⟨rfl,rfl⟩ := hc; exact wp_exit (hn (.exit id) _ _ _ _ hr hv)
  | ret => simp [compile] at hc; obtain ⟨rfl,rfl⟩ := hc; exact wp_ret (hn .ret _ _ _ _ hr hv)
  | goto l => simp [compile] at hc; obtain ⟨rfl,rfl⟩ := hc; exact wp_goto (hn (.goto l) _ _ _ _ hr hv)
  | rangeFunc _ _ _ _ => simp [compile] at hc; obtain ⟨rfl,rfl⟩ := hc; exact hv.elim
  | refuse _ => simp [compile] at hc; obtain ⟨rfl,rfl⟩ := hc; exact hv.elim
  | region id ops draw =>
   simp only [compile] at hc
   cases draw with
   | false =>
    simp only [Bool.false_eq_true,if_false] at hc;split at hc
    · rename_i is his;simp at hc; obtain ⟨rfl,rfl⟩ := hc;exact wp_region_list (list_sound ok ops.toList is his hr hv fun E' st' w' a' hr' hk => hn .normal _ _ _ _ (hr'.keep kf) hk)
    · simp at hc; obtain ⟨rfl,rfl⟩ := hc; exact hv.elim
   | true =>
    simp only [if_true] at hc;split at hc
    · rename_i cs hcs;split at hc
      · rename_i hd;simp at hc; obtain ⟨rfl,rfl⟩ := hc;have hd0 := hd;simp only [drawOK,Bool.and_eq_true,beq_iff_eq] at hd0;have hlen : cs.length = ops.size := hd0.1.1.1.1.1
        have hun : ∀ x ∈ cs,un_ (Array.replicate ops.size false) x.1 = true := by
         intro x hx;have : x.1 < ops.size := by simpa using List.all_eq_true.1 hd0.1.1.1.2 x hx
         simp [un_,Array.getD,this]
        have hfil : cs.filter (fun x => un_ (Array.replicate ops.size false) x.1) = cs := List.filter_eq_self.2 hun;have hx : Ext E w E { w with drawn := w.drawn + 1 } := ext_of_eq rfl rfl rfl rfl
        have hr' : Rel S N E0 w0 E st { w with drawn := w.drawn + 1 } a := by
         have hj := hr.next ok (E' := E) (w' := { w with drawn := w.drawn + 1 }) (H' := st.H) ⟨hr.emb.len,fun i o l ho hl => OR.mono ok hx (fun _ _ => rfl) (hr.emb.obj i o l ho hl),hr.emb.inj,hr.emb.lt,hr.emb.F,hr.emb.gl.ext ok hx⟩ hx (dst := none) (fun d hd => by cases hd) (r := .junk) (v := undef) (VR.junk _);exact hj
        refine wp_region_any ok.mixed ?_;refine any_sound ok hd (mkDraw_spec hcs) (fun E' st' w' a' hr' hk => hn .normal _ _ _ _ (hr'.keep kf) hk) ops.size _ (by simp) (by rw [hfil,hlen]) (fun n hn' => ?_) hr' (by rw [hfil]; exact hv);simp [Array.getD] at hn'
      · split at hc
        · rename_i t ht;split at hc
          · rename_i hd;simp at hc; obtain ⟨rfl,rfl⟩ := hc;simp only [treeOK,Bool.and_eq_true] at hd;have hx : Ext E w E { w with drawn := w.drawn + 1 } := ext_of_eq rfl rfl rfl rfl
            have hr' : Rel S N E0 w0 E st { w with drawn := w.drawn + 1 } a := by
             have hj := hr.next ok (E' := E) (w' := { w with drawn := w.drawn + 1 }) (H' := st.H) ⟨hr.emb.len,fun i o l ho hl => OR.mono ok hx (fun _ _ => rfl) (hr.emb.obj i o l ho hl),hr.emb.inj,hr.emb.lt,hr.emb.F,hr.emb.gl.ext ok hx⟩ hx (dst := none) (fun d hd => by cases hd) (r := .junk) (v := undef) (VR.junk _);exact hj
            have hno : ∀ n,(Array.replicate ops.size false).getD n false = true → False := fun n hn' => by simp [Array.getD] at hn'
            refine wp_region_any ok.mixed ?_
            refine tree_sound ok (fun n hn' e he => by
             have := List.all_eq_true.1 (List.all_eq_true.1 hd.1 n (by simpa using hn')) e he
             simpa using this) (fun E' st' w' a' hr' hk => hn .normal _ _ _ _ (hr'.keep kf) hk) ops.size _ (by simp) ?_ (fun n hn' => (hno n hn').elim) t [] [] (fun n hn' => (hno n hn').elim) (by simp) (by simp) (by simp) (by simp) hd.2 (mkT_spec _ ht) hr' hv
            rw [List.filter_eq_self.2,List.length_range];intro x hx';have : x < ops.size := by simpa using hx'
            simp [un_,Array.getD,this]
          · simp at hc; obtain ⟨rfl,rfl⟩ := hc; exact hv.elim
        · simp at hc; obtain ⟨rfl,rfl⟩ := hc; exact hv.elim
    · simp at hc; obtain ⟨rfl,rfl⟩ := hc; exact hv.elim
  | seq x y =>
   simp only [compile] at hc;split at hc
   · rename_i x' h1 hx;split at hc
     · rename_i y' h2 hy;simp at hc; obtain ⟨rfl,rfl⟩ := hc;refine wp_seq (code_sound hn0 f _ _ x x' hx E st w a hr _ hv _ fun e E' st' w' a' hr' hk => ?_)
       cases e with
       | normal => exact code_sound hn0 f _ _ y y' hy E' st' w' a' hr' _ hk _ hn
       | exit id => exact hn (.exit id) _ _ _ _ hr' hk
       | ret => exact hn .ret _ _ _ _ hr' hk
       | goto l => exact hn (.goto l) _ _ _ _ hr' hk
     · cases hc
   · cases hc
  | cond c x y =>
   simp only [compile] at hc;split at hc
   · rename_i c' x' h1 hcc hx;split at hc
     · rename_i y' h2 hy;simp at hc; obtain ⟨rfl,rfl⟩ := hc;simp only [vc] at hv;obtain ⟨b,hb,hv⟩ := onB_some hv;have hcv := cOpd_sound hcc hr.fr;rw [hb] at hcv;have hbv := VR.bool_inv (show VR S E w _ _ from hcv);rw [cas_iff] at hv;refine wp_cond_split hbv (fun hb => ?_) (fun hb => ?_)
       · exact code_sound hn0 f _ _ x x' hx E st w a hr _ (hv.1 hb) _ hn
       · exact code_sound hn0 f _ _ y y' hy E st w a hr _ (hv.2 hb) _ hn
     · cases hc
   · cases hc
  | block id x =>
   simp only [compile] at hc;split at hc
   · rename_i ks hs1 hmk;split at hc
     · rename_i x' h1 hx;simp at hc; obtain ⟨rfl,rfl⟩ := hc;refine wp_block (code_sound hn0 f _ _ x x' hx E st w a hr _ hv _ fun e E' st' w' a' hr' hk => ?_)
       have fin : ∀ {E' : Env} {st' : St K El} {w' : World} {a' : Act},Rel S N E0 w0 E' st' w' a' → (∃ ids lent,OkRelo n0 st' ids lent ks ∧ ∃ H2,HGh S (st'.relo ids lent ks).H H2 ∧ Q' .normal ⟨(st'.relo ids lent ks).fr,H2⟩) → Q .normal a' w' := by
        intro E' st' w' a' hr' hk;obtain ⟨ids,lent,hre,H2,hgx,hq⟩ := hk;exact hn .normal _ _ _ _ ((hr'.relo ok hn0 hre).hgh ok hgx) hq
       cases e with
       | normal => exact fin hr' hk
       | exit j =>
        simp only [Ex.to,Exit.inBlock]
        by_cases hj : j = id
        · simp only [hj,if_true] at hk ⊢; exact fin hr' hk
        · simp only [hj,if_false] at hk ⊢; exact hn (.exit j) _ _ _ _ hr' hk
       | ret => exact hn .ret _ _ _ _ hr' hk
       | goto l => exact hn (.goto l) _ _ _ _ hr' hk
     · cases hc
   · split at hc
     · rename_i x' h1 hx;simp at hc; obtain ⟨rfl,rfl⟩ := hc;refine wp_block (code_sound hn0 f _ _ x x' hx E st w a hr _ hv _ fun e E' st' w' a' hr' hk => ?_)
       cases e with
       | normal => exact hn .normal _ _ _ _ hr' hk
       | exit j =>
        simp only [Ex.to,Exit.inBlock]
        by_cases hj : j = id
        · simp only [hj,if_true] at hk ⊢; exact hn .normal _ _ _ _ hr' hk
        · simp only [hj,if_false] at hk ⊢; exact hn (.exit j) _ _ _ _ hr' hk
       | ret => exact hn .ret _ _ _ _ hr' hk
       | goto l => exact hn (.goto l) _ _ _ _ hr' hk
     · cases hc
  | loop x =>
   simp only [compile] at hc;split at hc
   · rename_i ks hs0;split at hc
     · rename_i x' h1 hx;simp at hc; obtain ⟨rfl,rfl⟩ := hc;obtain ⟨Inv,μ,⟨st0,hgh,ids,lent,hre,H2,hgx,hinv⟩,hround⟩ := hv;obtain ⟨Eg,hrg⟩ := hr.gh ok hgh;refine wp_loop_n (fun n a w => ∃ E st,Rel S N E0 w0 E st w a ∧ Inv st ∧ μ st = n) (fun n a1 w1 hI => ?_) (n := μ ⟨(st0.relo ids lent ks).fr,H2⟩) ⟨_,_,(hrg.relo ok hn0 hre).hgh ok hgx,hinv,rfl⟩;obtain ⟨E1,st1,hr1,hinv1,rfl⟩ := hI;refine code_sound hn0 f _ _ x x' hx E1 st1 w1 a1 hr1 _ (hround st1 hinv1) _ fun e E' st' w' a' hr' hk => ?_
       cases e with
       | normal =>
        obtain ⟨ids',lent',hre',H2',hgx',hinv',hlt⟩ := hk;exact ⟨_,hlt,_,_,(hr'.relo ok hn0 hre').hgh ok hgx',hinv',rfl⟩
       | exit id => exact hn (.exit id) _ _ _ _ hr' hk
       | ret => exact hn .ret _ _ _ _ hr' hk
       | goto l => exact hn (.goto l) _ _ _ _ hr' hk
     · cases hc
   · cases hc
  | scope x =>
   simp only [compile] at hc;split at hc
   · rename_i l hl;split at hc
     · rename_i r x' h1 hfl hx;split at hc
       · rename_i r' h2 hrr;simp at hc; obtain ⟨rfl,rfl⟩ := hc;refine wp_scope_jumps l (fun a' w' => ∃ E' st',Rel S N E0 w0 E' st' w' a' ∧ vc S n0 r' st' fun e st'' => match e with | .goto _ => False | e => Q' e st'') (fun _ _ => 0) hfl ?_ (fun a' w' hJ => ?_)
         · refine code_sound hn0 f _ _ x x' hx E st w a hr _ hv _ fun e E' st' w' a' hr' hk => ?_
           cases e with
           | normal => exact hn .normal _ _ _ _ hr' hk
           | exit id => exact hn (.exit id) _ _ _ _ hr' hk
           | ret => exact hn .ret _ _ _ _ hr' hk
           | goto l' => exact ⟨hk.1,E',st',hr',hk.2⟩
         · obtain ⟨E',st',hr',hv'⟩ := hJ;refine code_sound hn0 f _ _ r r' hrr E' st' w' a' hr' _ hv' _ fun e E2 st2 w2 a2 hr2 hk => ?_
           cases e with
           | normal => exact hn .normal _ _ _ _ hr2 hk
           | exit id => exact hn (.exit id) _ _ _ _ hr2 hk
           | ret => exact hn .ret _ _ _ _ hr2 hk
           | goto l' => exact hk.elim
       · cases hc
     · cases hc
   · cases hc
def cRes (P : Program) : List ResultVar → Option (List (Nat × Option (Nat × Bool)))
 | [] => some []
 | .tmp t :: r => (cRes P r).map ((t,none) :: ·)
 | .cell t ty :: r => match sizeA P ty,cRes P r with
  | some s,some l => some ((t,some s) :: l)
  | _,_ => none
def resVC (S : Seat K El) (st : St K El) : List (Nat × Option (Nat × Bool)) → (List (AV K El) → Prop) → Prop
 | [],k => k []
 | (t,none) :: r,k => resVC S st r fun vs => k (st.fr t :: vs)
 | (t,some (n,ag)) :: r,k => rd S st.H (st.fr t) n fun us => resVC S st r fun vs => k ((if ag then .agg us else us.headD .junk) :: vs)
def oneOr (vs : List (AV K El)) : AV K El := match vs with
 | [v] => v
 | vs => .tup vs
def entryF (vs : List (AV K El)) : Nat → AV K El := fun t => vs.getD t .junk
def tabF (n : Nat) (fr : Nat → AV K El) : List (AV K El) := (List.range n).map fr
def endVC (S : Seat K El) (n0 : Nat) (res : List (Nat × Option (Nat × Bool))) (R : AV K El → Heap K El → Prop) (e : Ex) (st : St K El) : Prop := match e with
 | .exit _ | .goto _ => False
 | _ => resVC S st res fun vs => ∃ st',Gh ⟨entryF vs,st.H⟩ st' ∧ ∃ ids lent,OkRelo n0 ⟨st.fr,st'.H⟩ ids lent [] ∧ okV st'.H ids lent (oneOr (tabF vs.length st'.fr)) ∧ (tabF vs.length st'.fr).all AV.ntup = true ∧
     R (loc st'.H ids lent (oneOr (tabF vs.length st'.fr))) (locH st'.H ids lent)
def resGet (tmps : Array Value) : ResultVar → Sem Value
 | .tmp t => pure (tmps.getD t undef)
 | .cell a t => do loadVar t (← asAddr (tmps.getD a undef))
theorem results_eq (fn : Func) (tmps : Array Value) : results fn tmps = (do
    let vs ← fn.results.mapM (resGet tmps)
    pure (if h : vs.size = 1 then vs[0] else .tuple vs)) := by
 unfold results
 congr 1
include ok in
theorem res_sound {E : Env} {st : St K El} {w : World} {a : Act} (h : Rel S N E0 w0 E st w a) : ∀ (rs : List ResultVar) (res : List (Nat × Option (Nat × Bool))),cRes S.P rs = some res → ∀ {k : List (AV K El) → Prop},resVC S st res k →
    ∃ vs vals,k vs ∧ vals.length = vs.length ∧ (∀ (j : Nat) u v,vs[j]? = some u → vals[j]? = some v → VRv S E w u v) ∧ (rs.mapM (resGet a.tmps)).run S.P w = .ok vals w
 | [],res,hc,k,hk => by simp [cRes] at hc; subst hc; exact ⟨[],[],hk,rfl,fun j u v hu => by simp at hu,by simp⟩
 | .tmp t :: r,res,hc,k,hk => by
  simp only [cRes,Option.map_eq_some_iff] at hc;obtain ⟨res',hr',rfl⟩ := hc;obtain ⟨vs,vals,h1,h2,h3,h4⟩ := res_sound h r res' hr' hk;refine ⟨_,a.tmps.getD t undef :: vals,h1,by simp [h2],fun j u v hu hv => ?_,?_⟩
  · cases j with
    | zero => simp at hu hv; subst hu; subst hv; have := h.fr t; simpa [Array.getD_eq_getD_getElem?] using this
    | succ j => exact h3 j u v (by simpa using hu) (by simpa using hv)
  · simp only [List.mapM_cons,resGet,Sem.run_bind,Sem.run_pure,Result.andThen_ok,h4]
 | .cell p t :: r,res,hc,k,hk => by
  simp only [cRes] at hc;split at hc
  · rename_i s l hs hl;simp at hc; subst hc;obtain ⟨n,ag⟩ := s;obtain ⟨s1,s2,s3⟩ := sizeA_some hs w;simp only [resVC] at hk
    have hp : (st.fr p).plain = true := by cases hq : st.fr p <;> first | rfl | (rw [hq] at hk; exact hk.elim)
    obtain ⟨us,b,oo,cs,hk,hv,hul,hcl,hus,hcs⟩ := rd_sound ok h.emb hk ((h.fr p).one_of hp);obtain ⟨vs,vals,h1,h2,h3,h4⟩ := res_sound h r l hl hk;have hll := run_loadCells_list (P := S.P) w ⟨b,oo,none⟩ cs (fun j v hj => by rw [add_lit]; exact hcs j v hj);rw [hcl] at hll
    have key : ∃ v,(loadVar t ⟨b,oo,none⟩).run S.P w = .ok v w ∧ VRv S E w (if ag then .agg us else us.headD .junk) v := by
     cases ag with
     | true => exact ⟨.agg cs.toArray,by simp [loadVar,s1,s2,hll],cs.toArray,rfl,by simp [hul,hcl],fun j u hu => by simpa using hus j u hu⟩
     | false =>
      have h1 := s3 rfl;subst h1
      match us,hul,cs,hcl with
      | [u],_,[c],_ =>
       obtain ⟨c',k1,k2,k3⟩ := hus 0 u rfl;simp at k1;subst k1;have hc := hcs 0 c rfl;rw [Nat.add_zero] at hc;exact ⟨c,by simp [loadVar,s2,hc],VR2.to (k3.one_of k2)⟩
    obtain ⟨v,hv1,hv2⟩ := key;refine ⟨_,v :: vals,h1,by simp [h2],fun j u v' hu hv' => ?_,?_⟩
    · cases j with
      | zero =>
       rw [List.getElem?_cons_zero] at hu hv';cases hu; cases hv';exact hv2
      | succ j => exact h3 j u v' (by simpa using hu) (by simpa using hv')
    · have ha : (resGet a.tmps (.cell p t)).run S.P w = .ok v w := by
       have hav : (asAddr (a.tmps.getD p undef)).run S.P w = .ok ⟨b,oo,none⟩ w := by
        have hv' : a.tmps.getD p undef = .pointer (some ⟨b,oo,none⟩) := hv;rw [hv']; rfl
       simp only [resGet,Sem.run_bind,hav,Result.andThen_ok,hv1]
      simp only [List.mapM_cons,Sem.run_bind,ha,Sem.run_pure,Result.andThen_ok,h4]
  · cases hc
include ok in
theorem spec_of_vc {f : Nat} {fn : Func} (hf : S.P.funcs[f]? = some fn) {c : Code} (hb : fn.body = some c) {kf : List Nat} {hs hs' : List (List Nat)} {fuel : Nat} {ac : AC K El} (hc : compile S fn.ntmps kf fuel hs c = some (ac,hs'))
    {res : List (Nat × Option (Nat × Bool))} (hres : cRes S.P fn.results.toList = some res) {vs : List (AV K El)} {H : Heap K El} {R : AV K El → Heap K El → Prop} (hargs : vs.length ≤ fn.ntmps)
    (h : vc S H.length ac ⟨entryF vs,H⟩ (endVC S H.length res R)) : Spec S f vs H R := by
 intro E w args hE hsz hva;refine calls_of_wp hf hb ?_;refine code_sound ok (E0 := E) (w0 := w) (N := fn.ntmps) hE.len fuel hs hs' c ac hc E ⟨entryF vs,H⟩ w _ ⟨hE,fun t => ?_,Ext.refl,by simp; omega,rfl⟩ _ h _ fun e E' st' w' a' hr hk => ?_
 · simp only [entryF]
   cases hq : vs[t]? with
   | none =>
    have : vs.getD t .junk = .junk := by simp [List.getD,hq]
    rw [this]; exact VR.junk _
   | some u =>
    have : vs.getD t .junk = u := by simp [List.getD,hq]
    rw [this];obtain ⟨v,hv1,hv2⟩ := hva t u hq;have htl : t < args.size := (Array.getElem?_eq_some_iff.1 hv1).1
    have : (args ++ Array.replicate (fn.ntmps - args.size) undef).getD t undef = v := by
     rw [Array.getD_eq_getD_getElem?,Array.getElem?_append_left htl,hv1]; rfl
    rw [this];exact hv2.to
 · have key : endVC S H.length res R .ret st' → a'.defers = [] ∧ ∃ v,(results fn a'.tmps).run S.P w' = .ok v w' ∧ ∃ v' r E' H',Ending.returned v = .returned v' ∧ R r H' ∧ VRv S E' w' r v' ∧ Emb S E' H' w' ∧ Ext E w E' w' := by
    intro hk;simp only [endVC] at hk;obtain ⟨vs0,vals,⟨st2,hgh,ids,lent,hre,hokv,hnt',hR⟩,h20,h30,h4⟩ := res_sound ok hr fn.results.toList res hres hk
    obtain ⟨E2,hemb2,hx2,hfr2⟩ := gh_sound ok (g := fun t => vals.getD t undef) hgh hr.emb (fun t => by
     simp only [entryF]
     rcases Nat.lt_or_ge t vs0.length with hlt | hge
     · have h1 : vs0.getD t .junk = vs0[t] := by simp [List.getD,hlt]
       have h2 : vals.getD t undef = vals[t]'(by omega) := by simp [List.getD,show t < vals.length by omega]
       rw [h1,h2];exact h30 t _ _ (List.getElem?_eq_getElem hlt) (List.getElem?_eq_getElem _)
     · have h1 : vs0.getD t .junk = .junk := by simp [List.getD,List.getElem?_eq_none hge]
       rw [h1]; exact VR.junk _)
    have hr2 : Rel S fn.ntmps E w E2 ⟨st'.fr,st2.H⟩ w' a' := ⟨hemb2,fun t => VRv.mono ok hx2 (hr.fr t),hr.ext.trans hx2,hr.size,hr.defers⟩;have hrel := hr2.relo ok hE.len hre;have hsub : Sub S E2 st2.H w' ids lent (outEnv E2 ids) := .outEnv hemb2 hre.nodup hre.lt;have h2 : vals.length = (tabF vs0.length st2.fr).length := by simp [tabF,h20]
    have h3 : ∀ (j : Nat) u v,(tabF vs0.length st2.fr)[j]? = some u → vals[j]? = some v → VRv S E2 w' u v := by
     intro j u v hu hv;have hj := (List.getElem?_eq_some_iff.1 hv).1;have := hfr2 j;have hvv : vals.getD j undef = v := by simp [List.getD,hv]
     have huu : st2.fr j = u := by simpa [tabF,show j < vs0.length by omega] using hu
     rw [hvv,huu] at this;exact this
    generalize tabF vs0.length st2.fr = vs' at *
    have hmap : (fn.results.mapM (resGet a'.tmps)).run S.P w' = .ok vals.toArray w' := by
     rw [Array.mapM_eq_mapM_toList];simp only [Sem.run_map,h4,Result.andThen_ok]
    refine ⟨hr.defers,(if h : vals.toArray.size = 1 then vals.toArray[0] else .tuple vals.toArray),?_,_,_,outEnv E2 ids,locH st2.H ids lent,rfl,hR,?_,hrel.emb,hrel.ext⟩
    · rw [results_eq];simp only [Sem.run_bind];rw [hmap];rfl
    · refine loc_VR ok hsub hokv ?_;have htwo : ∀ (j : Nat) u v,vs'[j]? = some u → vals[j]? = some v → VR2 S E2 w' u v := fun j u v hu hv => ntup_two (h3 j u v hu hv) (List.all_eq_true.1 hnt' u (mem_of_getElem? hu))
      match vs',vals,h2 with
      | [u],[v],_ => exact h3 0 u v rfl rfl
      | [],[],_ => exact ⟨#[],rfl,rfl,fun j u hu => by simp at hu⟩
      | u :: u2 :: us,v :: v2 :: vr,h2 =>
       refine ⟨(v :: v2 :: vr).toArray,by simp,by simpa using h2,fun j x hx => ?_⟩;have hj : j < (v :: v2 :: vr).length := by rw [h2]; exact (List.getElem?_eq_some_iff.1 hx).1
       exact ⟨(v :: v2 :: vr)[j],by simp,htwo j x _ hx (List.getElem?_eq_getElem hj)⟩
   cases e with
   | normal => exact key hk
   | ret => exact key hk
   | exit id => exact hk.elim
   | goto l => exact hk.elim
end
end Sh
end Go.Proofs.YtomdfaelgcefdaaGreatDoor
namespace Go.Proofs.YtomdfaelgcefdaaGreatDoor
open Go
namespace Sh
variable {K : Type} {El : K → Type}
structure FC (K : Type) (El : K → Type) where
 ac : AC K El
 res : List (Nat × Option (Nat × Bool))
 n : Nat
def shade (S : Seat K El) (f : Nat) (kf : List Nat) (hs : List (List Nat)) : Option (FC K El) :=
 (S.P.funcs[f]?).bind fun fn => fn.body.bind fun c => (compile S fn.ntmps kf 200 hs c).bind fun a => (cRes S.P fn.results.toList).map fun res => ⟨a.1,res,fn.ntmps⟩
theorem spec_of {S : Seat K El} (ok : Ok S) {f : Nat} {kf : List Nat} {hs : List (List Nat)} {F : FC K El} (hc : shade S f kf hs = some F) {vs : List (AV K El)} {H : Heap K El} {R : AV K El → Heap K El → Prop} (hargs : vs.length ≤ F.n)
    (h : vc S H.length F.ac ⟨entryF vs,H⟩ (endVC S H.length F.res R)) : Spec S f vs H R := by
 unfold shade at hc
 cases hf : S.P.funcs[f]? with
 | none => rw [hf] at hc; cases hc
 | some fn =>
  rw [hf] at hc;simp only [Option.bind_some] at hc
  cases hb : fn.body with
  | none => rw [hb] at hc; cases hc
  | some c =>
   rw [hb] at hc;simp only [Option.bind_some] at hc
   cases ha : compile S fn.ntmps kf 200 hs c with
   | none => rw [ha] at hc; cases hc
   | some a =>
    rw [ha] at hc;simp only [Option.bind_some] at hc
    cases hr : cRes S.P fn.results.toList with
    | none => rw [hr] at hc; cases hc
    | some res =>
     rw [hr] at hc;cases hc;exact spec_of_vc ok hf hb (ac := a.1) (hs' := a.2) ha hr hargs h
end Sh
end Go.Proofs.YtomdfaelgcefdaaGreatDoor
namespace Go.Proofs.YtomdfaelgcefdaaGreatDoor
open Go
namespace Sh
variable {K : Type} {El : K → Type}
abbrev Fr (K : Type) (El : K → Type) := List (Nat × AV K El)
def look : Fr K El → Nat → AV K El
 | [],_ => .junk
 | x :: l,t => match Nat.beq t x.1 with
  | true => x.2
  | false => look l t
def opdE (fr : Fr K El) : Opd K El → AV K El
 | .tmp t => look fr t
 | .const v => v
def opdsE (fr : Fr K El) : List (Opd K El) → List (AV K El)
 | [] => []
 | o :: l => opdE fr o :: opdsE fr l
def updE (fr : Fr K El) (d : Option Nat) (v : AV K El) : Fr K El := match d with
 | some d => (d,v) :: fr
 | none => fr
def andB (b : Bool) (p : Prop) : Prop := match b with
 | true => p
 | false => False
def leB (a b : Nat) : Bool := Nat.ble a b
def rdE (S : Seat K El) (H : Heap K El) (a : AV K El) (n : Nat) (k : List (AV K El) → Prop) : Prop := match a with
 | .ptr i off => match H[i]? with
  | some (.cells vs) => andB (leB (off + n) vs.length) (k ((vs.drop off).take n))
  | _ => False
 | a => rd S H a n k
def wrE (S : Seat K El) (H : Heap K El) (a : AV K El) (us : List (AV K El)) (k : Heap K El → Prop) : Prop := match a with
 | .ptr i off => match H[i]? with
  | some (.cells vs) => andB (leB (off + us.length) vs.length) (k (H.set i (.cells (splice vs off us))))
  | _ => False
 | a => wr S H a us k
def looks (fr : Fr K El) : List Nat → List (AV K El)
 | [] => []
 | t :: r => look fr t :: looks fr r
def bytesEq : List UInt8 → List UInt8 → Bool
 | [],[] => true
 | a :: l,b :: m => match Nat.beq a.toNat b.toNat with
  | true => bytesEq l m
  | false => false
 | _,_ => false
theorem bytesEq_iff : ∀ {l m : List UInt8},bytesEq l m = (l == m)
 | [],[] => rfl
 | [],_ :: _ => rfl
 | _ :: _,[] => rfl
 | a :: l,b :: m => by
  have ih := bytesEq_iff (l := l) (m := m);simp only [bytesEq,List.cons_beq_cons]
  cases h : Nat.beq a.toNat b.toNat with
  | true =>
   have : a = b := UInt8.toNat_inj.1 (Nat.eq_of_beq_eq_true h);subst this;simp [ih]
  | false =>
   have : (a == b) = false := by
    have hne := Nat.ne_of_beq_eq_false h;simp only [beq_eq_false_iff_ne];exact fun e => hne (by rw [e])
   simp [this]
def strEq (a b : ByteArray) : Bool := bytesEq a.data.toList b.data.toList
theorem strEq_iff {a b : ByteArray} : strEq a b = (a.toList == b.toList) := by
 rw [strEq,bytesEq_iff,ByteArray.toList_eq,ByteArray.toList_eq]
def binE (op : BinOp) (c : TC) (x y : AV K El) (kk : AV K El → Prop) : Prop := match c,x,y with
 | .num,.int k m,.int k' n => match op with
  | .shl | .shr => shI op k m n kk
  | op => andB (decide (k = k')) (binI op k m n kk)
 | .num,.str a,.str b => match op with
  | .add => bin .add .num (.str a) (.str b) kk
  | op => eqK op (some (strEq a b)) kk
 | .agg ks,.agg l,.agg m => andB (kds ks l) (andB (kds ks m) (eqK op (eqs l m) kk))
 | c,x,y => bin op c x y kk
structure CallP (S : Seat K El) (f : Nat) (vs : List (AV K El)) (H : Heap K El) (k : AV K El → Heap K El → Prop) : Prop where
 get : callG S f vs H k
structure StrP (S : Seat K El) (kk : K) (b : ByteArray) (k : List (El kk) → Prop) : Prop where
 get : ∃ ys,rowOf S kk (bytesV b) = some ys ∧ k ys
structure LookP (key : AV K El) (es : List (AV K El × AV K El)) (kn : Prop) (ks : AV K El → Prop) : Prop where
 get : match mfind key es 0 with
  | some none => kn
  | some (some (_,v)) => ks v
  | none => False
theorem look_none {key : AV K El} {es : List (AV K El × AV K El)} {kn : Prop} {ks : AV K El → Prop} (h : mfind key es 0 = some none) (hk : kn) : LookP key es kn ks := ⟨by rw [h]; exact hk⟩
theorem look_some {key : AV K El} {es : List (AV K El × AV K El)} {kn : Prop} {ks : AV K El → Prop} {j : Nat} {v : AV K El} (h : mfind key es 0 = some (some (j,v))) (hk : ks v) : LookP key es kn ks := ⟨by rw [h]; exact hk⟩
structure PutP (key v : AV K El) (es : List (AV K El × AV K El)) (kp : List (AV K El × AV K El) → Prop) : Prop where
 get : match mfind key es 0 with
  | some none => kp (es ++ [(key,v)])
  | some (some (j,_)) => kp (es.set j (key,v))
  | none => False
theorem put_none {key v : AV K El} {es : List (AV K El × AV K El)} {kp : List (AV K El × AV K El) → Prop} (h : mfind key es 0 = some none) (hk : kp (es ++ [(key,v)])) : PutP key v es kp := ⟨by rw [h]; exact hk⟩
inductive GStep (K : Type) where
 | slot (t : Nat) (k : K)
 | cell (i j : Nat) (k : K)
def ghE : List (GStep K) → Fr K El → Heap K El → Option (Fr K El × Heap K El)
 | [],fr,H => some (fr,H)
 | .slot t k :: gs,fr,H => match look fr t with
  | .nils => ghE gs ((t,.own k H.length 0 0 .whole) :: fr) (H ++ [.row k []])
  | _ => none
 | .cell i j k :: gs,fr,H => match H[i]? with
  | some (.cells vs) => match vs[j]? with
   | some .nils => ghE gs fr (H.set i (.cells (vs.set j (.own k H.length 0 0 .whole))) ++ [.row k []])
   | _ => none
  | _ => none
def entryE : Nat → List (AV K El) → Fr K El
 | _,[] => []
 | n,v :: vs => (n,v) :: entryE (n + 1) vs
structure EndP (n0 : Nat) (fr : Fr K El) (H : Heap K El) (vs : List (AV K El)) (R : AV K El → Heap K El → Prop) : Prop where
 get : ∃ gs fr' H',ghE gs (entryE 0 vs) H = some (fr',H') ∧ ∃ ids lent,OkRelo n0 ⟨ofL fr,H'⟩ ids lent [] ∧ okV H' ids lent (oneOr (tabF vs.length (ofL fr'))) ∧ (tabF vs.length (ofL fr')).all AV.ntup = true ∧
  R (loc H' ids lent (oneOr (tabF vs.length (ofL fr')))) (locH H' ids lent)
structure LoopP (S : Seat K El) (n0 : Nat) (ks : List Nat) (fr : Fr K El) (H : Heap K El) (Body : List (AV K El) → Heap K El → (Fr K El → Heap K El → Prop) → Prop) : Prop where
 get : (∃ (Inv : List (AV K El) → Heap K El → Prop) (μ : List (AV K El) → Heap K El → Nat),ks.Nodup ∧
     (∃ gs fr' H',ghE gs fr H = some (fr',H') ∧ ∃ ids lent,OkRelo n0 ⟨ofL fr',H'⟩ ids lent ks ∧ Inv ((looks fr' ks).map (loc H' ids lent)) (locH H' ids lent)) ∧
     ∀ vs H1,vs.length = ks.length → Inv vs H1 → Body vs H1 fun fr2 H2 => ∃ ids lent,OkRelo n0 ⟨ofL fr2,H2⟩ ids lent ks ∧ Inv ((looks fr2 ks).map (loc H2 ids lent)) (locH H2 ids lent) ∧ μ ((looks fr2 ks).map (loc H2 ids lent)) (locH H2 ids lent) < μ vs H1) ∨
  (∃ (Inv : List (AV K El) → Heap K El → Prop) (μ : List (AV K El) → Heap K El → Nat),ks.Nodup ∧
   (∃ gs fr' H',ghE gs fr H = some (fr',H') ∧ ∃ ids lent,OkRelo n0 ⟨ofL fr',H'⟩ ids lent ks ∧ ∃ H3,HGh S (locH H' ids lent) H3 ∧ Inv ((looks fr' ks).map (loc H' ids lent)) H3) ∧
   ∀ vs H1,vs.length = ks.length → Inv vs H1 → Body vs H1 fun fr2 H2 => ∃ ids lent,OkRelo n0 ⟨ofL fr2,H2⟩ ids lent ks ∧ ∃ H3,HGh S (locH H2 ids lent) H3 ∧ Inv ((looks fr2 ks).map (loc H2 ids lent)) H3 ∧ μ ((looks fr2 ks).map (loc H2 ids lent)) H3 < μ vs H1)
def GE (S : Seat K El) (p : Prim K El) (vs : List (AV K El)) (H : Heap K El) (k : AV K El → Heap K El → Prop) : Prop :=
 match p,vs with
 | .box,[v] => andB (v.cells.all AV.one) (k (.ptr H.length 0) (H ++ [.cells v.cells]))
 | .load n ag,[a] => rdE S H a n fun us => k (cond ag (.agg us) (us.headD .junk)) H
 | .store n,[a,v] => andB (Nat.beq v.cells.length n) (andB (v.cells.all AV.one) (wrE S H a v.cells fun H' => k .junk H'))
 | .nilck,[x] => andB (alive H x) (nilG x fun v => k v H)
 | .bin op c,[x,y] => andB (alive H x) (andB (alive H y) (binE op c x y fun v => k v H))
 | .slice kk lo hi mx,x :: vs => andB (alive H x) (slc kk lo hi mx x vs fun v => k v H)
 | .faddr off,[x] => andB (alive H x) (faddrG off x fun v => k v H)
 | .field off n ag,[.agg cs] => andB (leB (off + n) cs.length) (k (cond ag (.agg ((cs.drop off).take n)) ((cs.drop off).headD .junk)) H)
 | .iaddr kk,[x,.int _ n] => andB (alive H x) (iaddrG kk x n fun v => k v H)
 | .call f,vs => CallP S f vs H k
 | .callv,.fn f :: vs => andB (callable S.P f) (CallP S f vs H k)
 | .callv,.clo f is :: vs => andB (alive H (.clo f is)) (andB (callable S.P f) (CallP S f (vs ++ is.map capV) H k))
 | .appendS kk,[s,.str b] => StrP S kk b fun ys => app S H kk s ys k
 | .mkfn f,vs => match capsOf vs with
  | some is => andB (vs.all (alive H)) (k (cloOf f is) H)
  | none => False
 | .aindex len sz ag,[.agg cs,.int _ n] => 0 ≤ n ∧ n < len ∧ n.toNat * sz + sz ≤ cs.length ∧ k (cond ag (.agg ((cs.drop (n.toNat * sz)).take sz)) ((cs.drop (n.toNat * sz)).headD .junk)) H
 | .mlook c z ck,[.mp i,key] => match H[i]? with
  | some (.map es) => andB (kd1 c key) (LookP key es (k (cond ck (.tup [z,.bool false]) z) H) fun v => k (cond ck (.tup [v,.bool true]) v) H)
  | _ => False
 | .mput c,[.mp i,key,v] => match H[i]? with
  | some (.map es) => andB (kd1 c key) (andB v.data (PutP key v es fun es' => k .junk (H.set i (.map es'))))
  | _ => False
 | .len str,[x] => andB (alive H x) (lenI str x fun n => k (.int .i64 n) H)
 | p,vs => G S p vs H k
def lits : List Nat := [0,1,2,3,4,5,6,7,8,9,10,11,12,13,14,15,16,17,18,19,20,21,22,23,24,25,26,27,28,29,30,31,32,33,34,35,36,37,38,39,40,41,42,43,44,45,46,47,48,49,50,51,52,53,54,55,56,57,58,59,60,61,62,63]
def fN (n : Nat) (c : Nat → Prop) : Prop := go lits
 where
 go : List Nat → Prop
  | [] => c n
  | j :: l => match Nat.beq n j with
   | true => c j
   | false => go l
def fC (x : Cp) (c : Cp → Prop) : Prop := match x with
 | .full => c .full
 | .whole => c .whole
 | .unk => c .unk
def fI (l : List (Option Nat)) (c : List (Option Nat) → Prop) : Prop := match l with
 | [] => c []
 | none :: r => fI r fun r => c (none :: r)
 | some i :: r => fN i fun i => fI r fun r => c (some i :: r)
def f1 (v : AV K El) (c : AV K El → Prop) : Prop := match v with
 | .ptr i off => fN i fun i => fN off fun off => c (.ptr i off)
 | .eptr k i e off => fN i fun i => fN off fun off => c (.eptr k i e off)
 | .own k i lo len cp => fN i fun i => fC cp fun cp => c (.own k i lo len cp)
 | .junk => c .junk
 | .cell => c .cell
 | .bool b => c (.bool b)
 | .int k n => c (.int k n)
 | .str s => c (.str s)
 | .nilp => c .nilp
 | .iptr k xs e off => fN off fun off => c (.iptr k xs e off)
 | .nils => c .nils
 | .imm k xs => c (.imm k xs)
 | .agg cs => c (.agg cs)
 | .tup vs => c (.tup vs)
 | .fn f => c (.fn f)
 | .clo f is => fI is fun is => c (.clo f is)
 | .nilfn => c .nilfn
 | .mp i => fN i fun i => c (.mp i)
 | .nilmap => c .nilmap
def fL (l : List (AV K El)) (c : List (AV K El) → Prop) : Prop := match l with
 | [] => c []
 | v :: r => f1 v fun v => fL r fun r => c (v :: r)
def f2 (v : AV K El) (c : AV K El → Prop) : Prop := match v with
 | .agg cs => fL cs fun cs => c (.agg cs)
 | v => f1 v c
def fT (l : List (AV K El)) (c : List (AV K El) → Prop) : Prop := match l with
 | [] => c []
 | v :: r => f2 v fun v => fT r fun r => c (v :: r)
def f3 (v : AV K El) (c : AV K El → Prop) : Prop := match v with
 | .tup cs => fT cs fun cs => c (.tup cs)
 | v => f2 v c
def fM (l : List (AV K El × AV K El)) (c : List (AV K El × AV K El) → Prop) : Prop := c l
def fO (o : AO K El) (c : AO K El → Prop) : Prop := match o with
 | .gone => c .gone
 | .cells vs => fL vs fun vs => c (.cells vs)
 | .row k xs => c (.row k xs)
 | .siter s p => c (.siter s p)
 | .rowx k xs e vs => fL vs fun vs => c (.rowx k xs e vs)
 | .map es => fM es fun es => c (.map es)
 | .miter i => fN i fun i => c (.miter i)
 | .arr k xs => c (.arr k xs)
def fH (H : Heap K El) (c : Heap K El → Prop) : Prop := match H with
 | [] => c []
 | o :: r => fO o fun o => fH r fun r => c (o :: r)
def fF (fr : Fr K El) (ks : List Nat) (c : Fr K El → Prop) : Prop := match ks with
 | [] => c []
 | t :: r => f3 (look fr t) fun v => fF fr r fun l => c ((t,v) :: l)
def putE (fr : Fr K El) (d : Option Nat) (v : AV K El) (c : Fr K El → Prop) : Prop := match d with
 | some d => c ((d,v) :: fr)
 | none => c fr
def quE (q : Bool) (H : Heap K El) (c : Heap K El → Prop) : Prop := match q with
 | true => c H
 | false => fH H c
def GIns.runE (S : Seat K El) (i : GIns K El) (fr : Fr K El) (H : Heap K El) (k : Fr K El → Heap K El → Prop) : Prop :=
 GE S i.p (opdsE fr i.xs) H fun r H' => f3 r fun r => quE i.p.quiet H' fun H' => match i.av with
  | [] => putE fr i.d r fun fr => k fr H'
  | av => avOK av (ofL fr) H H' ∧ putE fr i.d r fun fr => k fr H'
def GIns.vcE (S : Seat K El) (i : GIns K El) (fr : Fr K El) (H : Heap K El) (k : Fr K El → Heap K El → Prop) : Prop := match i.g with
 | none => i.runE S fr H k
 | some (s,want) => match gate (look fr s) want with
  | some b => cas b (i.runE S fr H k) (putE fr i.d (.tup []) fun fr => k fr H)
  | none => False
def vcLE (S : Seat K El) : List (GIns K El) → Fr K El → Heap K El → (Fr K El → Heap K El → Prop) → Prop
 | [],fr,H,k => k fr H
 | i :: l,fr,H,k => i.vcE S fr H fun fr' H' => vcLE S l fr' H' k
def vcTE (S : Seat K El) : OT K El → Fr K El → Heap K El → (Fr K El → Heap K El → Prop) → Prop
 | .done,fr,H,k => k fr H
 | .q _ i t,fr,H,k => i.vcE S fr H fun fr' H' => vcTE S t fr' H' k
 | .one _ i t,fr,H,k => i.vcE S fr H fun fr' H' => vcTE S t fr' H' k
 | .br _ i t o,fr,H,k => (i.vcE S fr H fun fr' H' => vcTE S t fr' H' k) ∧ vcTE S o fr H k
def zipE : List Nat → List (AV K El) → Fr K El
 | t :: r,v :: vs => (t,v) :: zipE r vs
 | _,_ => []
structure FrzP (S : Seat K El) (n0 : Nat) (ks : List Nat) (fr : Fr K El) (H : Heap K El) (k : List (AV K El) → Heap K El → Prop) : Prop where
 get : ∃ ids lent,OkRelo n0 ⟨ofL fr,H⟩ ids lent ks ∧ ∃ H2,HGh S (locH H ids lent) H2 ∧ k ((looks fr ks).map (loc H ids lent)) H2
def vcE (S : Seat K El) (n0 : Nat) : AC K El → Fr K El → Heap K El → (Ex → Fr K El → Heap K El → Prop) → Prop
 | .skip,fr,H,Q => Q .normal fr H
 | .reg is ks,fr,H,Q => vcLE S is fr H fun fr' H' => fF fr' ks fun fr' => Q .normal fr' H'
 | .seq a b,fr,H,Q => vcE S n0 a fr H fun e fr' H' => match e with
  | .normal => vcE S n0 b fr' H' Q
  | e => Q e fr' H'
 | .cond c a b,fr,H,Q => match opdE fr c with
  | .bool t => cas t (vcE S n0 a fr H Q) (vcE S n0 b fr H Q)
  | _ => False
 | .block id a,fr,H,Q => vcE S n0 a fr H fun e fr' H' => match e with
  | .exit j => cas (Nat.beq j id) (Q .normal fr' H') (Q (.exit j) fr' H')
  | e => Q e fr' H'
 | .loop a ks,fr,H,Q => LoopP S n0 ks fr H fun vs H1 again => vcE S n0 a (zipE ks vs) H1 fun e fr2 H2 => match e with
       | .normal => again fr2 H2
       | e => Q e fr2 H2
 | .exit id,fr,H,Q => Q (.exit id) fr H
 | .ret,fr,H,Q => Q .ret fr H
 | .goto l,fr,H,Q => Q (.goto l) fr H
 | .bad,_,_,_ => False
 | .tree t ks,fr,H,Q => vcTE S t fr H fun fr' H' => fF fr' ks fun fr' => Q .normal fr' H'
 | .frz ks,fr,H,Q => FrzP S n0 ks fr H fun vs H1 => Q .normal (zipE ks vs) H1
 | .scope a l r,fr,H,Q => vcE S n0 a fr H fun e fr' H' => match e with
  | .goto l' => l' = l ∧ vcE S n0 r fr' H' fun e fr'' H'' => match e with
   | .goto _ => False
   | e => Q e fr'' H''
  | e => Q e fr' H'
def resE (S : Seat K El) (fr : Fr K El) (H : Heap K El) : List (Nat × Option (Nat × Bool)) → (List (AV K El) → Prop) → Prop
 | [],k => k []
 | (t,none) :: r,k => resE S fr H r fun vs => k (look fr t :: vs)
 | (t,some (n,ag)) :: r,k => rdE S H (look fr t) n fun us => resE S fr H r fun vs => k (cond ag (.agg us) (us.headD .junk) :: vs)
def endE (S : Seat K El) (n0 : Nat) (res : List (Nat × Option (Nat × Bool))) (R : AV K El → Heap K El → Prop) (e : Ex) (fr : Fr K El) (H : Heap K El) : Prop := match e with
 | .exit _ | .goto _ => False
 | _ => resE S fr H res fun vs => EndP n0 fr H vs R
variable {S : Seat K El}
theorem look_eq : ∀ (fr : Fr K El) (t : Nat),look fr t = ofL fr t
 | [],t => rfl
 | x :: l,t => by
  simp only [look,ofL,List.lookup]
  have : Nat.beq t x.1 = (t == x.1) := by
   cases hb : Nat.beq t x.1 with
   | true => simp [Nat.eq_of_beq_eq_true hb]
   | false => simp [Nat.ne_of_beq_eq_false hb]
  rw [this]
  cases t == x.1 with
  | true => rfl
  | false => exact look_eq l t
theorem opdE_eq (fr : Fr K El) (o : Opd K El) : opdE fr o = opdV (ofL fr) o := by cases o <;> simp [opdE,opdV,look_eq]
theorem opdsE_eq (fr : Fr K El) : ∀ (l : List (Opd K El)),opdsE fr l = l.map (opdV (ofL fr))
 | [] => rfl
 | o :: l => by simp [opdsE,opdE_eq,opdsE_eq fr l]
theorem updE_eq (fr : Fr K El) (d : Option Nat) (v : AV K El) : ofL (updE fr d v) = upd (ofL fr) d v := by
 cases d with
 | none => rfl
 | some d =>
  funext t
  simp only [updE,upd,ofL,List.lookup]
  by_cases h : t = d
  · subst h; simp
  · have : (t == d) = false := by simpa using h
    rw [this,if_neg h]
theorem andB_iff {b : Bool} {p : Prop} : andB b p ↔ b = true ∧ p := by cases b <;> simp [andB]
theorem leB_iff {a b : Nat} : leB a b = true ↔ a ≤ b := by simp [leB]
theorem cond_ite {α : Type} (b : Bool) (x y : α) : cond b x y = if b then x else y := by cases b <;> rfl
theorem rdE_to {H : Heap K El} {a : AV K El} {n : Nat} {k : List (AV K El) → Prop} (h : rdE S H a n k) : rd S H a n k := by
 unfold rdE at h;split at h
 · split at h
   · rename_i hh;have := andB_iff.1 h;simp only [rd,hh];exact ⟨leB_iff.1 this.1,this.2⟩
   · exact h.elim
 · exact h
theorem wrE_to {H : Heap K El} {a : AV K El} {us : List (AV K El)} {k : Heap K El → Prop} (h : wrE S H a us k) : wr S H a us k := by
 unfold wrE at h;split at h
 · split at h
   · rename_i hh;have := andB_iff.1 h;simp only [wr,hh];exact ⟨leB_iff.1 this.1,this.2⟩
   · exact h.elim
 · exact h
theorem binE_to {op : BinOp} {c : TC} {x y : AV K El} {kk : AV K El → Prop} (h : binE op c x y kk) : bin op c x y kk := by
 unfold binE at h;split at h
 · split at h
   · exact h
   · exact h
   · have h3 := andB_iff.1 h;have h4 := of_decide_eq_true h3.1;unfold bin;simp only;exact ⟨h4,h3.2⟩
 · split at h
   · exact h
   · rw [strEq_iff] at h;unfold bin;simp only;exact h
 · have h1 := andB_iff.1 h;have h2 := andB_iff.1 h1.2;exact ⟨h1.1,h2.1,h2.2⟩
 · exact h
theorem GE_to {p : Prim K El} {vs : List (AV K El)} {H : Heap K El} {k : AV K El → Heap K El → Prop} (h : GE S p vs H k) : G S p vs H k := by
 unfold GE at h;split at h
 · exact andB_iff.1 h
 · simp only [cond_ite] at h; exact rdE_to h
 · have h1 := andB_iff.1 h;have h2 := andB_iff.1 h1.2;exact ⟨Nat.eq_of_beq_eq_true h1.1,h2.1,wrE_to h2.2⟩
 · exact andB_iff.1 h
 · have h1 := andB_iff.1 h;have h2 := andB_iff.1 h1.2;exact ⟨h1.1,h2.1,binE_to h2.2⟩
 · exact andB_iff.1 h
 · exact andB_iff.1 h
 · have h1 := andB_iff.1 h;rw [cond_ite] at h1;exact ⟨leB_iff.1 h1.1,h1.2⟩
 · exact andB_iff.1 h
 · exact h.get
 · have h1 := andB_iff.1 h;exact ⟨h1.1,h1.2.get⟩
 · have h1 := andB_iff.1 h;have h2 := andB_iff.1 h1.2;exact ⟨h1.1,h2.1,h2.2.get⟩
 · obtain ⟨ys,h1,h2⟩ := h.get;simp only [G,h1];exact h2
 · split at h
   · rename_i his;simp only [G,his];exact andB_iff.1 h
   · exact h.elim
 · simp only [cond_ite] at h; exact h
 · split at h
   · rename_i hi;simp only [G,hi];simp only [cond_ite] at h;exact ⟨(andB_iff.1 h).1,(andB_iff.1 h).2.get⟩
   · exact h.elim
 · split at h
   · rename_i hi;simp only [G,hi];have h1 := andB_iff.1 h;have h2 := andB_iff.1 h1.2;exact ⟨h1.1,h2.1,h2.2.get⟩
   · exact h.elim
 · exact andB_iff.1 h
 · exact h
theorem fN_to {n : Nat} {c : Nat → Prop} (h : fN n c) : c n := by
 have key : ∀ (l : List Nat),fN.go n c l → c n := by
  intro l
  induction l with
  | nil => exact id
  | cons j l ih =>
   intro h;simp only [fN.go] at h;split at h
   · rename_i hb;rw [Nat.eq_of_beq_eq_true hb]; exact h
   · exact ih h
 exact key _ h
theorem fC_to {x : Cp} {c : Cp → Prop} (h : fC x c) : c x := by cases x <;> exact h
theorem fI_to : ∀ {l : List (Option Nat)} {c : List (Option Nat) → Prop},fI l c → c l
 | [],_,h => by unfold fI at h; exact h
 | none :: r,_,h => by
  unfold fI at h;exact fI_to (l := r) h
 | some i :: r,_,h => by
  unfold fI at h;exact fI_to (l := r) (fN_to h)
theorem f1_to {v : AV K El} {c : AV K El → Prop} (h : f1 v c) : c v := by
 cases v <;> first | exact h | exact fN_to h | exact fN_to (fN_to (n := _) h) | exact fC_to (fN_to (n := _) h) | exact fI_to h
theorem fL_to : ∀ {l : List (AV K El)} {c : List (AV K El) → Prop},fL l c → c l
 | [],_,h => by unfold fL at h; exact h
 | v :: r,_,h => by
  unfold fL at h;exact fL_to (l := r) (f1_to h)
theorem f2_to {v : AV K El} {c : AV K El → Prop} (h : f2 v c) : c v := by
 cases v <;> first | exact fL_to h | exact f1_to h
theorem fT_to : ∀ {l : List (AV K El)} {c : List (AV K El) → Prop},fT l c → c l
 | [],_,h => by unfold fT at h; exact h
 | v :: r,_,h => by
  unfold fT at h;exact fT_to (l := r) (f2_to h)
theorem f3_to {v : AV K El} {c : AV K El → Prop} (h : f3 v c) : c v := by
 cases v <;> first | exact fT_to h | exact f2_to h
theorem fO_to {o : AO K El} {c : AO K El → Prop} (h : fO o c) : c o := by
 cases o <;> first | exact h | exact fL_to h | exact fN_to h
theorem fH_to : ∀ {H : Heap K El} {c : Heap K El → Prop},fH H c → c H
 | [],_,h => by unfold fH at h; exact h
 | v :: r,_,h => by
  unfold fH at h;exact fH_to (H := r) (fO_to h)
theorem fF_to {fr : Fr K El} : ∀ {ks : List Nat} {c : Fr K El → Prop},fF fr ks c → c (zipE ks (looks fr ks))
 | [],_,h => by unfold fF at h; exact h
 | t :: r,_,h => by
  unfold fF at h;exact fF_to (ks := r) (f3_to h)
theorem putE_to {fr : Fr K El} {d : Option Nat} {v : AV K El} {c : Fr K El → Prop} (h : putE fr d v c) : c (updE fr d v) := by cases d <;> exact h
theorem quE_to {q : Bool} {H : Heap K El} {c : Heap K El → Prop} (h : quE q H c) : c H := by
 cases q
 · exact fH_to h
 · exact h
theorem runE_to {i : GIns K El} {fr : Fr K El} {H : Heap K El} {k : Fr K El → Heap K El → Prop} {k' : St K El → Prop} (h : i.runE S fr H k) (hk : ∀ fr' H',k fr' H' → k' ⟨ofL fr',H'⟩) : i.run S ⟨ofL fr,H⟩ k' := by
 unfold GIns.runE at h;unfold GIns.run;rw [opdsE_eq] at h;refine G_mono (GE_to h) fun r H' h => ?_
 replace h := quE_to (f3_to h)
 rw [← updE_eq];split at h
 · rename_i hav;rw [hav];exact ⟨trivial,hk _ _ (putE_to h)⟩
 · exact ⟨h.1,hk _ _ (putE_to h.2)⟩
theorem vcIE_to {i : GIns K El} {fr : Fr K El} {H : Heap K El} {k : Fr K El → Heap K El → Prop} {k' : St K El → Prop} (h : i.vcE S fr H k) (hk : ∀ fr' H',k fr' H' → k' ⟨ofL fr',H'⟩) : i.vc S ⟨ofL fr,H⟩ k' := by
 unfold GIns.vcE at h;unfold GIns.vc;split at h
 · rename_i hg;simp only [hg];exact runE_to h hk
 · rename_i s want hg;simp only [hg,← look_eq];split at h
   · rename_i b hb;simp only [hb,onO];rw [cas_iff] at h ⊢;refine ⟨fun hh => runE_to (h.1 hh) hk,fun hh => ?_⟩;have := hk _ _ (putE_to (h.2 hh));rw [updE_eq] at this;exact this
   · exact h.elim
theorem vcLE_to : ∀ {is : List (GIns K El)} {fr : Fr K El} {H : Heap K El} {k : Fr K El → Heap K El → Prop} {k' : St K El → Prop},vcLE S is fr H k → (∀ fr' H',k fr' H' → k' ⟨ofL fr',H'⟩) → vcL S is ⟨ofL fr,H⟩ k'
 | [],_,_,_,_,h,hk => hk _ _ h
 | _ :: _,_,_,_,_,h,hk => vcIE_to h fun _ _ h => vcLE_to h hk
theorem vcTE_to : ∀ {t : OT K El} {fr : Fr K El} {H : Heap K El} {k : Fr K El → Heap K El → Prop} {k' : St K El → Prop},vcTE S t fr H k → (∀ fr' H',k fr' H' → k' ⟨ofL fr',H'⟩) → vcT S t ⟨ofL fr,H⟩ k'
 | .done,_,_,_,_,h,hk => hk _ _ h
 | .q _ _ _,_,_,_,_,h,hk => vcIE_to h fun _ _ h => vcTE_to h hk
 | .one _ _ _,_,_,_,_,h,hk => vcIE_to h fun _ _ h => vcTE_to h hk
 | .br _ _ _ _,_,_,_,_,h,hk => ⟨vcIE_to h.1 fun _ _ h => vcTE_to h hk,vcTE_to h.2 hk⟩
theorem zip_looks (fr : Fr K El) : ∀ (ks : List Nat),zipE ks (looks fr ks) = ks.map fun t => (t,ofL fr t)
 | [] => rfl
 | t :: r => by simp [zipE,looks,look_eq,zip_looks fr r]
theorem looks_eq (fr : Fr K El) : ∀ (ks : List Nat),looks fr ks = ks.map (ofL fr)
 | [] => rfl
 | t :: r => by simp [looks,look_eq,looks_eq fr r]
theorem zip_map (f : Nat → AV K El) : ∀ (ks : List Nat),zipE ks (ks.map f) = ks.map fun t => (t,f t)
 | [] => rfl
 | t :: r => by simp [zipE,zip_map f r]
theorem map_zip : ∀ (ks : List Nat) (vs : List (AV K El)),ks.Nodup → vs.length = ks.length → ks.map (ofL (zipE ks vs)) = vs
 | [],vs,_,h => (List.length_eq_zero_iff.1 h).symm
 | t :: r,[],_,h => by simp at h
 | t :: r,v :: vs,hn,h => by
  have hn' := List.nodup_cons.1 hn;have ih := map_zip r vs hn'.2 (by simpa using h);simp only [zipE,List.map_cons]
  congr 1
  · simp [ofL]
  · refine Eq.trans (List.map_congr_left fun u hu => ?_) ih
    have hne : (u == t) = false := by
     have : u ≠ t := fun h => hn'.1 (h ▸ hu);simpa using this
    simp [ofL,List.lookup,hne]
theorem ghE_to : ∀ {gs : List (GStep K)} {fr fr' : Fr K El} {H H' : Heap K El},ghE gs fr H = some (fr',H') → Gh ⟨ofL fr,H⟩ ⟨ofL fr',H'⟩
 | [],fr,fr',H,H',h => by cases h; exact .refl _
 | .slot t k :: gs,fr,fr',H,H',h => by
  simp only [ghE] at h;split at h
  · rename_i hl;rw [look_eq] at hl;refine .slot t k hl ?_;have := ghE_to h;rw [← updE_eq];exact this
  · cases h
 | .cell i j k :: gs,fr,fr',H,H',h => by
  simp only [ghE] at h;split at h
  · rename_i vs hi;split at h
    · rename_i hj;exact .cell i j k vs hi hj (ghE_to h)
    · cases h
  · cases h
theorem vcE_to {n0 : Nat} : ∀ {ac : AC K El} {fr : Fr K El} {H : Heap K El} {Q : Ex → Fr K El → Heap K El → Prop} {Q' : Ex → St K El → Prop},vcE S n0 ac fr H Q → (∀ e fr' H',Q e fr' H' → Q' e ⟨ofL fr',H'⟩) → vc S n0 ac ⟨ofL fr,H⟩ Q'
 | .skip,_,_,_,_,h,hq => hq _ _ _ h
 | .exit _,_,_,_,_,h,hq => hq _ _ _ h
 | .ret,_,_,_,_,h,hq => hq _ _ _ h
 | .goto _,_,_,_,_,h,hq => hq _ _ _ h
 | .bad,_,_,_,_,h,_ => h.elim
 | .frz ks,fr,H,Q,Q',h,hq => by
  unfold vcE at h;unfold vc;obtain ⟨ids,lent,ho,H2,hg,hk⟩ := h.get
  have rel : (St.relo ⟨ofL fr,H⟩ ids lent ks).fr = ofL (zipE ks ((looks fr ks).map (loc H ids lent))) := by
   rw [looks_eq,List.map_map,zip_map];rfl
  refine ⟨ids,lent,ho,H2,hg,?_⟩;rw [rel];exact hq _ _ _ hk
 | .reg is ks,_,_,_,_,h,hq => vcLE_to h fun fr' H' h => by
  have := hq _ _ _ (fF_to h);rw [zip_looks] at this;exact this
 | .tree t ks,_,_,_,_,h,hq => vcTE_to h fun fr' H' h => by
  have := hq _ _ _ (fF_to h);rw [zip_looks] at this;exact this
 | .seq a b,_,_,_,_,h,hq => vcE_to (ac := a) h fun e fr' H' h => by
  cases e with
  | normal => exact vcE_to (ac := b) h hq
  | exit _ => exact hq _ _ _ h
  | ret => exact hq _ _ _ h
  | goto _ => exact hq _ _ _ h
 | .cond c a b,fr,_,_,_,h,hq => by
  unfold vcE at h;unfold vc;rw [← opdE_eq];split at h
  · rename_i t ht;rw [ht];simp only [onB];rw [cas_iff] at h ⊢;exact ⟨fun hh => vcE_to (h.1 hh) hq,fun hh => vcE_to (h.2 hh) hq⟩
  · exact h.elim
 | .block id a,_,_,_,_,h,hq => vcE_to (ac := a) h fun e fr' H' h => by
  cases e with
  | exit j =>
   simp only at h ⊢;rw [cas_iff] at h;split
   · rename_i hj;exact hq _ _ _ (h.1 (by rw [hj]; simp))
   · rename_i hj;refine hq _ _ _ (h.2 ?_)
     cases hb : Nat.beq j id with
     | true => exact absurd (Nat.eq_of_beq_eq_true hb) hj
     | false => rfl
  | normal => exact hq _ _ _ h
  | ret => exact hq _ _ _ h
  | goto _ => exact hq _ _ _ h
 | .loop a ks,fr,H,Q,Q',h,hq => by
  unfold vcE at h;unfold vc
  have rel : ∀ (fr : Fr K El) (H : Heap K El) (ids lent : List Nat),(St.relo ⟨ofL fr,H⟩ ids lent ks).fr = ofL (zipE ks ((looks fr ks).map (loc H ids lent))) := by
   intro fr H ids lent;rw [looks_eq,List.map_map,zip_map];rfl
  have lenE : ∀ (fr : Fr K El) (H : Heap K El) (ids lent : List Nat),((looks fr ks).map (loc H ids lent)).length = ks.length := by
   intro fr H ids lent; simp [looks_eq]
  have mu : ks.Nodup → ∀ (fr : Fr K El) (H : Heap K El) (ids lent : List Nat),ks.map (St.relo ⟨ofL fr,H⟩ ids lent ks).fr = (looks fr ks).map (loc H ids lent) := by
   intro hn fr H ids lent;rw [rel,map_zip ks _ hn (lenE fr H ids lent)]
  rcases h.get with ⟨Inv,μ,hn,⟨gs,fr0,H0,hg,ids,lent,ho,hi⟩,hb⟩ | ⟨Inv,μ,hn,⟨gs,fr0,H0,hg,ids,lent,ho,H3,hx,hi⟩,hb⟩
  · refine ⟨fun st => ∃ vs,vs.length = ks.length ∧ st.fr = ofL (zipE ks vs) ∧ Inv vs st.H,fun st => μ (ks.map st.fr) st.H,⟨_,ghE_to hg,ids,lent,ho,_,.refl _,_,lenE ..,rel ..,hi⟩,?_⟩;rintro ⟨f1,H1⟩ ⟨vs,hl,rfl,hinv⟩;refine vcE_to (ac := a) (hb vs H1 hl hinv) fun e fr2 H2 h => ?_
    cases e with
    | normal =>
     obtain ⟨ids,lent,ho,hi,hm⟩ := h;refine ⟨ids,lent,ho,_,.refl _,⟨_,lenE ..,rel ..,hi⟩,?_⟩;simp only [mu hn];rw [map_zip ks vs hn hl];exact hm
    | exit _ => exact hq _ _ _ h
    | ret => exact hq _ _ _ h
    | goto _ => exact hq _ _ _ h
  · refine ⟨fun st => ∃ vs,vs.length = ks.length ∧ st.fr = ofL (zipE ks vs) ∧ Inv vs st.H,fun st => μ (ks.map st.fr) st.H,⟨_,ghE_to hg,ids,lent,ho,H3,hx,_,lenE ..,rel ..,hi⟩,?_⟩;rintro ⟨f1,H1⟩ ⟨vs,hl,rfl,hinv⟩;refine vcE_to (ac := a) (hb vs H1 hl hinv) fun e fr2 H2 h => ?_
    cases e with
    | normal =>
     obtain ⟨ids,lent,ho,H4,hx,hi,hm⟩ := h;refine ⟨ids,lent,ho,H4,hx,⟨_,lenE ..,rel ..,hi⟩,?_⟩;simp only [mu hn];rw [map_zip ks vs hn hl];exact hm
    | exit _ => exact hq _ _ _ h
    | ret => exact hq _ _ _ h
    | goto _ => exact hq _ _ _ h
 | .scope a l r,_,_,_,_,h,hq => vcE_to (ac := a) h fun e fr' H' h => by
  cases e with
  | goto l' =>
   refine ⟨h.1,vcE_to (ac := r) h.2 fun e fr' H' h => ?_⟩
   cases e with
   | goto _ => exact h.elim
   | normal => exact hq _ _ _ h
   | exit _ => exact hq _ _ _ h
   | ret => exact hq _ _ _ h
  | normal => exact hq _ _ _ h
  | exit _ => exact hq _ _ _ h
  | ret => exact hq _ _ _ h
theorem resE_to {fr : Fr K El} {H : Heap K El} : ∀ {res : List (Nat × Option (Nat × Bool))} {k k' : List (AV K El) → Prop},resE S fr H res k → (∀ vs,k vs → k' vs) → resVC S ⟨ofL fr,H⟩ res k'
 | [],_,_,h,hk => hk _ h
 | (t,none) :: r,_,_,h,hk => resE_to (res := r) h fun vs h => by
  have := hk _ h;rw [look_eq] at this;exact this
 | (t,some (n,ag)) :: r,_,_,h,hk => by
  simp only [resE] at h;rw [look_eq] at h;refine rd_mono (rdE_to h) fun us h => ?_;refine resE_to (res := r) h fun vs h => ?_;rw [cond_ite] at h;exact hk _ h
theorem entryE_eq : ∀ (vs : List (AV K El)) (n t : Nat),n ≤ t → ofL (entryE n vs) t = vs.getD (t - n) .junk
 | [],n,t,_ => rfl
 | v :: vs,n,t,h => by
  simp only [entryE,ofL,List.lookup]
  by_cases he : t = n
  · subst he; simp
  · have hb : (t == n) = false := by simpa using he
    rw [hb];have := entryE_eq vs (n + 1) t (by omega);simp only [ofL] at this;rw [this,show t - n = (t - (n + 1)) + 1 by omega];rfl
theorem entryE_fn (vs : List (AV K El)) : ofL (entryE 0 vs) = entryF vs := by
 funext t
 rw [entryE_eq vs 0 t (Nat.zero_le _)];rfl
theorem EndP.to {n0 : Nat} {fr : Fr K El} {H : Heap K El} {vs : List (AV K El)} {R : AV K El → Heap K El → Prop} (h : EndP n0 fr H vs R) :
    ∃ st',Gh ⟨entryF vs,H⟩ st' ∧ ∃ ids lent,OkRelo n0 ⟨ofL fr,st'.H⟩ ids lent [] ∧ okV st'.H ids lent (oneOr (tabF vs.length st'.fr)) ∧ (tabF vs.length st'.fr).all AV.ntup = true ∧
     R (loc st'.H ids lent (oneOr (tabF vs.length st'.fr))) (locH st'.H ids lent) := by
 obtain ⟨gs,fr',H',hg,h⟩ := h.get;have := ghE_to hg;rw [entryE_fn] at this;exact ⟨_,this,h⟩
theorem tab_entry (vs : List (AV K El)) : tabF vs.length (ofL (entryE 0 vs)) = vs := by
 rw [entryE_fn];refine List.ext_getElem (by simp [tabF]) fun i h1 h2 => ?_;simp [tabF,entryF,h2]
theorem specE (ok : Ok S) {f : Nat} {kf : List Nat} {hs : List (List Nat)} {F : FC K El} (hc : shade S f kf hs = some F) {vs : List (AV K El)} {H : Heap K El} {R : AV K El → Heap K El → Prop} (hargs : leB vs.length F.n = true)
    (h : vcE S H.length F.ac (entryE 0 vs) H (endE S H.length F.res R)) : Spec S f vs H R := by
 refine spec_of ok hc (leB_iff.1 hargs) ?_;rw [← entryE_fn];refine vcE_to h fun e fr' H' h => ?_
 cases e with
 | exit _ => exact h.elim
 | goto _ => exact h.elim
 | normal => exact resE_to h fun _ h => h.to
 | ret => exact resE_to h fun _ h => h.to
end Sh
end Go.Proofs.YtomdfaelgcefdaaGreatDoor
namespace Go.Proofs.YtomdfaelgcefdaaGreatDoor
open Go
namespace Sh
variable {K : Type} {El : K → Type} {S : Seat K El}
theorem ok1_nil (H : Heap K El) (ids : List Nat) (v : AV K El) : ok1 H ids [] v := by
 unfold ok1;split
 · split
   · trivial
   · simp
 · split
   · trivial
   · simp
 · trivial
theorem okL_nil (H : Heap K El) (ids : List Nat) : ∀ (vs : List (AV K El)),okL H ids [] vs
 | [] => trivial
 | v :: vs => ⟨ok1_nil H ids v,okL_nil H ids vs⟩
theorem ok2_nil (H : Heap K El) (ids : List Nat) (v : AV K El) : ok2 H ids [] v := by
 unfold ok2;split
 · exact okL_nil H ids _
 · exact ok1_nil H ids _
theorem okT_nil (H : Heap K El) (ids : List Nat) : ∀ (vs : List (AV K El)),okT H ids [] vs
 | [] => trivial
 | v :: vs => ⟨ok2_nil H ids v,okT_nil H ids vs⟩
theorem okV_nil (H : Heap K El) (ids : List Nat) (v : AV K El) : okV H ids [] v := by
 unfold okV;split
 · exact okT_nil H ids _
 · exact ok2_nil H ids _
theorem okO_nil (H : Heap K El) (ids : List Nat) (o : AO K El) : okO H ids [] o := by
 unfold okO;split
 · exact okL_nil H ids _
 · exact okL_nil H ids _
 · trivial
theorem okH_nil (H : Heap K El) (ids : List Nat) : ∀ (l : List Nat),okH H ids [] l
 | [] => trivial
 | _ :: r => ⟨okO_nil H ids _,okH_nil H ids r⟩
theorem okF_nil (H : Heap K El) (ids : List Nat) (fr : Nat → AV K El) : ∀ (ks : List Nat),okF H ids [] fr ks
 | [] => trivial
 | _ :: r => ⟨okV_nil H ids _,okF_nil H ids fr r⟩
def Is (r : AV K El) (H : Heap K El) : AV K El → Heap K El → Prop := fun r' H' => r' = r ∧ H' = H
abbrev SpecD (S : Seat K El) (f : Nat) (vs : List (AV K El)) (H : Heap K El) (r : AV K El) (H' : Heap K El) : Prop := Spec S f vs H (Is r H')
def natsB (n : Nat) (ids : List Nat) : Bool := nodupB ids && ids.all fun i => leB (i + 1) n
 where
 nodupB : List Nat → Bool
  | [] => true
  | i :: l => !(l.any fun j => Nat.beq j i) && nodupB l
theorem nodupB_iff : ∀ {l : List Nat},natsB.nodupB l = true → l.Nodup
 | [],_ => List.nodup_nil
 | i :: l,h => by
  simp only [natsB.nodupB,Bool.and_eq_true,Bool.not_eq_true',List.any_eq_false] at h;refine List.nodup_cons.2 ⟨fun hi => h.1 i hi ?_,nodupB_iff h.2⟩;simp
theorem natsB_iff {n : Nat} {ids : List Nat} (h : natsB n ids = true) : ids.Nodup ∧ ∀ i ∈ ids,i < n := by
 simp only [natsB,Bool.and_eq_true] at h;exact ⟨nodupB_iff h.1,fun i hi => leB_iff.1 (List.all_eq_true.1 h.2 i hi)⟩
theorem relo_of {n0 : Nat} {fr : Fr K El} {H : Heap K El} {ks : List Nat} (ids : List Nat) (h : natsB H.length ids = true) (h0 : ids.take n0 = List.range n0) : OkRelo n0 ⟨ofL fr,H⟩ ids [] ks :=
 ⟨(natsB_iff h).1,(natsB_iff h).2,h0,okH_nil _ _ _,okF_nil _ _ _ _⟩
theorem end_of {n0 : Nat} {fr : Fr K El} {H : Heap K El} {vs : List (AV K El)} {R : AV K El → Heap K El → Prop} (ids : List Nat) (h : natsB H.length ids = true) (h0 : ids.take n0 = List.range n0) (ht : vs.all AV.ntup = true)
    (hR : R (loc H ids [] (oneOr vs)) (locH H ids [])) : EndP n0 fr H vs R :=
 ⟨⟨[],_,_,rfl,ids,[],relo_of ids h h0,okV_nil _ _ _,by rw [tab_entry]; exact ht,by rw [tab_entry]; exact hR⟩⟩
theorem endG_of {n0 : Nat} {fr fr' : Fr K El} {H H' : Heap K El} {vs : List (AV K El)} {R : AV K El → Heap K El → Prop} (gs : List (GStep K)) (ids : List Nat) (hg : ghE gs (entryE 0 vs) H = some (fr',H')) (h : natsB H'.length ids = true)
    (h0 : ids.take n0 = List.range n0) (ht : (looks fr' (List.range vs.length)).all AV.ntup = true) (hR : R (loc H' ids [] (oneOr (looks fr' (List.range vs.length)))) (locH H' ids [])) : EndP n0 fr H vs R := by
 have he : looks fr' (List.range vs.length) = tabF vs.length (ofL fr') := by rw [looks_eq]; rfl
 rw [he] at ht hR;exact ⟨⟨gs,_,_,hg,ids,[],relo_of ids h h0,okV_nil _ _ _,ht,hR⟩⟩
theorem loop_of {n0 : Nat} {ks : List Nat} {fr fr' : Fr K El} {H H' : Heap K El} {Body : List (AV K El) → Heap K El → (Fr K El → Heap K El → Prop) → Prop} (gs : List (GStep K)) (ids : List Nat)
    (Inv : List (AV K El) → Heap K El → Prop) (μ : List (AV K El) → Heap K El → Nat) (hn : natsB.nodupB ks = true) (hg : ghE gs fr H = some (fr',H')) (h : natsB H'.length ids = true) (h0 : ids.take n0 = List.range n0)
    (hi : Inv ((looks fr' ks).map (loc H' ids [])) (locH H' ids []))
    (hb : ∀ vs H1,Inv vs H1 → Body vs H1 fun fr2 H2 => ∃ ids lent,OkRelo n0 ⟨ofL fr2,H2⟩ ids lent ks ∧ Inv ((looks fr2 ks).map (loc H2 ids lent)) (locH H2 ids lent) ∧ μ ((looks fr2 ks).map (loc H2 ids lent)) (locH H2 ids lent) < μ vs H1) : LoopP S n0 ks fr H Body :=
 ⟨.inl ⟨Inv,μ,nodupB_iff hn,⟨gs,_,_,hg,ids,[],relo_of ids h h0,hi⟩,fun vs H1 _ hv => hb vs H1 hv⟩⟩
theorem loopX_of {n0 : Nat} {ks : List Nat} {fr fr' : Fr K El} {H H' : Heap K El} {Body : List (AV K El) → Heap K El → (Fr K El → Heap K El → Prop) → Prop} (gs : List (GStep K)) (ids lent : List Nat) {H3 : Heap K El}
    (Inv : List (AV K El) → Heap K El → Prop) (μ : List (AV K El) → Heap K El → Nat) (hn : natsB.nodupB ks = true) (hg : ghE gs fr H = some (fr',H')) (ho : OkRelo n0 ⟨ofL fr',H'⟩ ids lent ks) (hx : HGh S (locH H' ids lent) H3)
    (hi : Inv ((looks fr' ks).map (loc H' ids lent)) H3)
    (hb : ∀ vs H1,Inv vs H1 → Body vs H1 fun fr2 H2 => ∃ ids lent,OkRelo n0 ⟨ofL fr2,H2⟩ ids lent ks ∧ ∃ H3,HGh S (locH H2 ids lent) H3 ∧ Inv ((looks fr2 ks).map (loc H2 ids lent)) H3 ∧ μ ((looks fr2 ks).map (loc H2 ids lent)) H3 < μ vs H1) : LoopP S n0 ks fr H Body :=
 ⟨.inr ⟨Inv,μ,nodupB_iff hn,⟨gs,_,_,hg,ids,lent,ho,H3,hx,hi⟩,fun vs H1 _ hv => hb vs H1 hv⟩⟩
theorem reloL_of {n0 : Nat} {fr : Fr K El} {H : Heap K El} {ks : List Nat} (ids lent : List Nat) (h : natsB H.length ids = true) (h0 : ids.take n0 = List.range n0) (h1 : okH H ids lent ids) (h2 : okF H ids lent (ofL fr) ks) : OkRelo n0 ⟨ofL fr,H⟩ ids lent ks :=
 ⟨(natsB_iff h).1,(natsB_iff h).2,h0,h1,h2⟩
theorem frz_of {n0 : Nat} {ks : List Nat} {fr : Fr K El} {H : Heap K El} {k : List (AV K El) → Heap K El → Prop} (ids lent : List Nat) {vs : List (AV K El)} {H1 : Heap K El} (h : natsB H.length ids = true) (h0 : ids.take n0 = List.range n0) (h1 : okH H ids lent ids) (h2 : okF H ids lent (ofL fr) ks)
    (hv : (looks fr ks).map (loc H ids lent) = vs) (hH : locH H ids lent = H1) (hk : k vs H1) : FrzP S n0 ks fr H k :=
 ⟨⟨ids,lent,reloL_of ids lent h h0 h1 h2,_,.refl _,by rw [hv,hH]; exact hk⟩⟩
theorem endL_of {n0 : Nat} {fr : Fr K El} {H : Heap K El} {vs : List (AV K El)} {R : AV K El → Heap K El → Prop} (ids lent : List Nat) (h : natsB H.length ids = true) (h0 : ids.take n0 = List.range n0) (ht : vs.all AV.ntup = true)
    (h1 : okH H ids lent ids) (h2 : okV H ids lent (oneOr vs)) (hR : R (loc H ids lent (oneOr vs)) (locH H ids lent)) : EndP n0 fr H vs R :=
 ⟨⟨[],_,_,rfl,ids,lent,reloL_of ids lent h h0 h1 trivial,by rw [tab_entry]; exact h2,by rw [tab_entry]; exact ht,by rw [tab_entry]; exact hR⟩⟩
theorem call_of {f : Nat} {vs : List (AV K El)} {H : Heap K El} {k : AV K El → Heap K El → Prop} (ids : List Nat) {r : AV K El} {H' : Heap K El}
    (h : SpecD S f (vs.map (loc2 H ids [])) (locH H ids []) r H') (hn : natsB H.length ids = true) (ht : vs.all AV.ntup = true)
    (hk : k (glob H.length ids r) (globH H ids H')) : CallP S f vs H k :=
 ⟨⟨ids,[],_,(natsB_iff hn).1,(natsB_iff hn).2,ht,okT_nil _ _ _,okH_nil _ _ _,h,fun r H' hr => ⟨.inl rfl,by rw [hr.1,hr.2]; exact hk⟩⟩⟩
theorem callR_of {f : Nat} {vs : List (AV K El)} {H : Heap K El} {k : AV K El → Heap K El → Prop} (ids : List Nat) {R : AV K El → Heap K El → Prop}
    (h : Spec S f (vs.map (loc2 H ids [])) (locH H ids []) R) (hn : natsB H.length ids = true) (ht : vs.all AV.ntup = true)
    (hk : ∀ r H',R r H' → k (glob H.length ids r) (globH H ids H')) : CallP S f vs H k :=
 ⟨⟨ids,[],_,(natsB_iff hn).1,(natsB_iff hn).2,ht,okT_nil _ _ _,okH_nil _ _ _,h,fun r H' hr => ⟨.inl rfl,hk r H' hr⟩⟩⟩
theorem Spec.mono {f : Nat} {vs : List (AV K El)} {H : Heap K El} {R R' : AV K El → Heap K El → Prop} (h : Spec S f vs H R) (hr : ∀ r H',R r H' → R' r H') : Spec S f vs H R' :=
 fun E w args he hs ha => (h E w args he hs ha).mono fun _ _ ⟨v,r,E',H',h1,h2,h3⟩ => ⟨v,r,E',H',h1,hr _ _ h2,h3⟩
theorem cQ {f : Nat} {vs : List (AV K El)} {H : Heap K El} {k : AV K El → Heap K El → Prop} (ids : List Nat) {r : AV K El} {H' : Heap K El} (h : SpecD S f (vs.map (loc2 H ids [])) (locH H ids []) r H') (hk : k (glob H.length ids r) (globH H ids H')) (hn : natsB H.length ids = true := by rfl) (ht : vs.all AV.ntup = true := by rfl) : CallP S f vs H k := call_of ids h hn ht hk
theorem rQ {f : Nat} {vs : List (AV K El)} {H : Heap K El} {k : AV K El → Heap K El → Prop} (ids : List Nat) {R : AV K El → Heap K El → Prop} (h : Spec S f (vs.map (loc2 H ids [])) (locH H ids []) R) (hk : ∀ r H', R r H' → k (glob H.length ids r) (globH H ids H')) (hn : natsB H.length ids = true := by rfl) (ht : vs.all AV.ntup = true := by rfl) : CallP S f vs H k := callR_of ids h hn ht hk
theorem eQ {n0 : Nat} {fr : Fr K El} {H : Heap K El} {vs : List (AV K El)} {R : AV K El → Heap K El → Prop} (ids : List Nat) (hR : R (loc H ids [] (oneOr vs)) (locH H ids [])) (h : natsB H.length ids = true := by rfl) (h0 : ids.take n0 = List.range n0 := by rfl) (ht : vs.all AV.ntup = true := by rfl) : EndP n0 fr H vs R := end_of ids h h0 ht hR
theorem tQ {a b : Prop} (h : b) (ha : a := by trivial) : a ∧ b := ⟨ha, h⟩
end Sh
end Go.Proofs.YtomdfaelgcefdaaGreatDoor
