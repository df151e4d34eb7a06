/- Sh22. -/
import Derived.ProofKit
import Derived.Test.YtomdfaelgcefdaaGreatDoorGag
set_option maxRecDepth 100000
set_option maxHeartbeats 64000000
namespace Go.Proofs.YtomdfaelgcefdaaGreatDoor
open Go Go.ChangeShapes Go.WideShapes Go.ChangeAt Go.RowKit
namespace Sh
variable {K : Type} {El : K → Type} {S : Seat K El}
def E0 : Env := ⟨[],fun _ => False⟩
theorem emb_zero {w : World} (hi : S.inv w) (hb : ∀ b ∈ S.glb,b < w.heap.size) : Emb S E0 [] w where
 len := rfl
 obj i o l h := by simp at h
 inj i j b h := by simp [E0] at h
 lt i b h := by simp [E0] at h
 F b h := h.elim
 gl := ⟨hi,hb,fun b _ => ⟨fun i h => by simp [E0] at h,fun h => h⟩⟩
theorem stable_nil (b : Nat) : Stable E0 b := ⟨fun i h => by simp [E0] at h,fun h => h⟩
theorem calls_true {f : Nat} {vs : List (AV K El)} {args : Array Value} {W : World} (h : Spec S f vs [] fun r _ => r = .bool true) (hi : S.inv W) (hb : ∀ b ∈ S.glb,b < W.heap.size) (hs : args.size = vs.length)
    (hv : ∀ (j : Nat) u,vs[j]? = some u → ∃ v,args[j]? = some v ∧ VR2 S E0 W u v) : Calls S.P f args W fun e W' => e = .returned (.bool true) ∧ Below W.heap.size W W' := by
 refine (h E0 W args (emb_zero hi hb) hs hv).mono ?_;rintro e W' ⟨v,r,E',H',rfl,rfl,hvr,hemb,hx⟩;refine ⟨?_,hx.os,hx.tape,hx.output,hx.size,fun k hk => hx.keep k hk fun i hi => by simp [E0] at hi⟩;have : VR S E' W' (.bool true) v := hvr;cases this;rfl
section
variable {H : Type} {enc : TypeId × Value → H} {P : Program}
theorem trodAll_stays (hl : laidOutB P = true) {W W' : World} {sp : Nat → Bool} (hb : Below W.heap.size W W') : ∀ {ts : List TypeId} {vs : List Value} {ds : List (DataW H)} {ps : List MemPlace},
    ts.all (fun t => P.readableRec t && decide (t < P.types.size)) = true → DataW.TrodAll enc P W 0 (fun _ => true) true ts vs ds ps → (∀ p ∈ ps,sp p.block = true) → (∀ p ∈ ps,p.block < W.heap.size) →
    DataW.TrodAll enc P W' 0 sp true ts vs ds ps
 | [],vs,ds,ps,_,h,_,_ => by
  obtain ⟨rfl,rfl,rfl⟩ := trodAll_nil h;exact rfl
 | t :: ts,vs,ds,ps,hr,h,hsp,hlt => by
  obtain ⟨v,vs,d,ds,p,q,rfl,rfl,rfl,h1,h2⟩ := trodAll_cons h;simp only [List.all_cons,Bool.and_eq_true,decide_eq_true_eq] at hr
  exact ⟨p,q,WideElems.Trod_stays hl hr.1.1 hr.1.2 h1 (fun x hx => hb.same (hlt x (by simp [hx]))) (fun x hx => hsp x (by simp [hx])),
   trodAll_stays hl hb (by simpa using hr.2) h2 (fun x hx => hsp x (by simp [hx])) (fun x hx => hlt x (by simp [hx])),rfl⟩
theorem post_true {f : Func} {s : ChangeSpec} {apart fresh handsOn again : Bool} {W W' : World} {args : Array Value} {ds gs : List (DataW H)} {before : List MemPlace} {tb : TypeId}
    (hl : laidOutB P = true) (hr : f.params.toList.all (fun t => P.readableRec t && decide (t < P.types.size)) = true) (hsv : s.vars = []) (hrt : f.resultTypes = #[tb]) (htb : P.underlying tb = some .bool)
    (hW : DataW.Whole enc P f.params.toList s.vars apart W args.toList ds gs before) (hfn : s.fn H (ds ++ gs) = { results := [.lit (.bool true)],args := ds }) (hb : Below W.heap.size W W') :
    s.post enc P f apart fresh handsOn again W args (.bool true) W' := by
 have hlt := hW.lt;obtain ⟨p,q,hA,hV,rfl,hz,hn⟩ := hW;have hV0 := hV;rw [hsv] at hV0;obtain ⟨rfl,rfl⟩ := trodVars_none hV0;have hpl : ∀ x ∈ p,x.block < W.heap.size := fun x hx => hlt x (by simp [hx])
 have hres : ∀ (b : Nat) (sp : Nat → Bool) (hd : Bool),DataW.TrodAll enc P W' b sp hd f.resultTypes.toList ((Value.bool true).resultList f.resultTypes.size) [.lit (.bool true)] [] := fun b sp hd => by
  rw [hrt];exact trodAll_mk1 (shut_bool htb true)
 have hargs : ∀ sp : Nat → Bool,(∀ x ∈ p,sp x.block = true) → DataW.TrodAll enc P W' 0 sp true f.params.toList args.toList ds p := fun sp hsp => trodAll_stays hl hb hr hA hsp hpl;have hvars : ∀ sp : Nat → Bool,DataW.TrodVars enc P W' sp s.vars ([] : List (DataW H)) [] := fun sp => by rw [hsv]; exact rfl
 refine ⟨ds,[],p ++ [],[],p,[],⟨p,[],hA,hV,rfl,hz,hn⟩,?_,?_,?_,hb.frame _,fun _ => ⟨?_,[.lit (.bool true)] ++ ds,[],([] ++ p) ++ [],⟨[] ++ p,[],trodAll_append (hargs _ fun _ _ => rfl) (hres _ _ _),hvars _,rfl,?_,?_⟩,?_⟩⟩
 · rw [hfn]; exact hres _ _ _
 · rw [hfn]; exact hargs _ fun x hx => by simpa using hpl x hx
 · rw [hfn]; exact hvars _
 · refine ok_one hrt rfl (okWide_bool_mk htb true)
 · intro b off hp;have hp' : MemPlace.cell b off ∈ p := by simpa using hp
   rw [hb.frozen (hpl _ hp')];exact hz b off (by simpa using hp')
 · intro ha;simpa using hn ha
 · intro x hx _;simpa using hx
end
inductive LK (K : Type) where
 | b
 | i (k : IntKind)
 | s
 | sl (k : K)
 | o
def Typed1 (N : Nat) (good : (k : K) → El k → Prop) : LK K → AV K El → Prop
 | .b,.bool _ => True
 | .i k,.int k' n => k' = k ∧ (Lit.int k n).wf = true
 | .s,.str s => s.size ≤ N
 | .o,.cell => True
 | .sl k,.imm k' xs => xs.length ≤ N ∧ ∃ h : k' = k,∀ x ∈ (h ▸ xs : List (El k)),good k x
 | _,_ => False
def Typed (N : Nat) (good : (k : K) → El k → Prop) : List (LK K) → List (AV K El) → Prop
 | [],[] => True
 | l :: ls,u :: us => Typed1 N good l u ∧ Typed N good ls us
 | _,_ => False
theorem Typed.append {N : Nat} {good : (k : K) → El k → Prop} : ∀ {l : List (LK K)} {us : List (AV K El)} {m : List (LK K)} {ws : List (AV K El)},Typed N good l us → Typed N good m ws → Typed N good (l ++ m) (us ++ ws)
 | [],[],_,_,_,h => h
 | [],_ :: _,_,_,h,_ => h.elim
 | _ :: _,[],_,_,h,_ => h.elim
 | _ :: _,_ :: _,_,_,h,h' => ⟨h.1,h.2.append h'⟩
theorem Typed.uncons {N : Nat} {good : (k : K) → El k → Prop} {l : LK K} {ls : List (LK K)} : ∀ {us : List (AV K El)},Typed N good (l :: ls) us → ∃ u r,us = u :: r ∧ Typed1 N good l u ∧ Typed N good ls r
 | [],h => h.elim
 | u :: r,h => ⟨u,r,rfl,h.1,h.2⟩
theorem Typed.unnil {N : Nat} {good : (k : K) → El k → Prop} : ∀ {us : List (AV K El)},Typed N good [] us → us = []
 | [],_ => rfl
 | _ :: _,h => h.elim
theorem Typed1.int {N : Nat} {good : (k : K) → El k → Prop} {k : IntKind} : ∀ {u : AV K El},Typed1 N good (.i k) u → ∃ n,u = .int k n ∧ (Lit.int k n).wf = true
 | .int _ n,h => ⟨n,by rw [h.1],h.2⟩
theorem Typed1.bool {N : Nat} {good : (k : K) → El k → Prop} : ∀ {u : AV K El},Typed1 N good .b u → ∃ b,u = .bool b
 | .bool b,_ => ⟨b,rfl⟩
theorem Typed1.str {N : Nat} {good : (k : K) → El k → Prop} : ∀ {u : AV K El},Typed1 N good .s u → ∃ s,u = .str s ∧ s.size ≤ N
 | .str s,h => ⟨s,rfl,h⟩
theorem Typed1.sl {N : Nat} {good : (k : K) → El k → Prop} {k : K} : ∀ {u : AV K El},Typed1 N good (.sl k) u → ∃ xs : List (El k),u = .imm k xs ∧ xs.length ≤ N ∧ ∀ x ∈ xs,good k x
 | .imm _ xs,⟨h1,h2,h3⟩ => by subst h2; exact ⟨xs,rfl,h1,h3⟩
mutual
def layT (S : Seat K El) : Nat → TypeId → Option (List (LK K))
 | 0,_ => none
 | n + 1,t => match S.P.underlying t with
  | some .bool => some [.b]
  | some (.int k) => some [.i k]
  | some .string => some [.s]
  | some (.slice e) => match S.kd e with
   | some k => some [.sl k]
   | none => some [.o]
  | some (.struct fs) => match layF S n 0 fs.toList with
   | some l => if l.length = S.P.cellsOf t then some l else none
   | none => none
  | _ => none
def layF (S : Seat K El) : Nat → Nat → List Field → Option (List (LK K))
 | _,_,[] => some []
 | 0,_,_ => none
 | n + 1,o,f :: fs => match layT S n f.type,layF S n (o + S.P.cellsOf f.type) fs with
  | some l,some m => if f.offset = o ∧ l.length = S.P.cellsOf f.type then some (l ++ m) else none
  | _,_ => none
end
structure Reads (S : Seat K El) where
 N : Nat
 good : (k : K) → El k → Prop
 kinds : K → List (LK K)
 lay : ∀ k,layT S 20 (S.ty k) = some (kinds k)
 make : ∀ k us,Typed N good (kinds k) us → ∃ x,S.enc k x = us ∧ good k x
structure Small {Hd : Type} (N : Nat) (Q : DataW Hd → Prop) : Prop where
 sl : ∀ {es sp : List (DataW Hd)},Q (.slice es sp) → es.length ≤ maxLen → es.length ≤ N ∧ ∀ e ∈ es,Q e
 agg : ∀ {ps : List (DataW Hd)},Q (.agg ps) → ∀ p ∈ ps,Q p
 str : ∀ {s : ByteArray},Q (.lit (.string s.data.toList)) → s.size ≤ maxLen → s.size ≤ N
def Fits (S : Seat K El) (N : Nat) (good : (k : K) → El k → Prop) (w : World) (l : List (LK K)) (cs : List Value) : Prop :=
 ∃ us,Typed N good l us ∧ us.length = cs.length ∧ ∀ (j : Nat) u,us[j]? = some u → ∃ v,cs[j]? = some v ∧ u.one = true ∧ VR S E0 w u v
theorem Fits.one {N : Nat} {good : (k : K) → El k → Prop} {w : World} {l : LK K} {v : Value} {u : AV K El} (h : Typed1 N good l u) (hu : u.one = true) (hv : VR S E0 w u v) : Fits S N good w [l] [v] :=
 ⟨[u],⟨h,trivial⟩,rfl,fun j u' hj => by
  cases j with
  | zero => simp at hj; subst hj; exact ⟨v,rfl,hu,hv⟩
  | succ j => simp at hj⟩
theorem Fits.append {N : Nat} {good : (k : K) → El k → Prop} {w : World} {l m : List (LK K)} {cs ds : List Value} (h : Fits S N good w l cs) (h' : Fits S N good w m ds) : Fits S N good w (l ++ m) (cs ++ ds) := by
 obtain ⟨us,h1,h2,h3⟩ := h;obtain ⟨ws,k1,k2,k3⟩ := h';refine ⟨us ++ ws,h1.append k1,by simp [h2,k2],fun j u hj => ?_⟩
 rcases Nat.lt_or_ge j us.length with hlt | hge
 · rw [List.getElem?_append_left hlt] at hj;obtain ⟨v,hv,hr⟩ := h3 j u hj;exact ⟨v,by rw [List.getElem?_append_left (by omega)]; exact hv,hr⟩
 · rw [List.getElem?_append_right hge] at hj;obtain ⟨v,hv,hr⟩ := k3 _ u hj;exact ⟨v,by rw [List.getElem?_append_right (by omega),← h2]; exact hv,hr⟩
theorem layF_cons {m o : Nat} {f : Field} {fs : List Field} {l : List (LK K)} (h : layF S (m + 1) o (f :: fs) = some l) :
    ∃ a b,layT S m f.type = some a ∧ layF S m (o + S.P.cellsOf f.type) fs = some b ∧ f.offset = o ∧ a.length = S.P.cellsOf f.type ∧ l = a ++ b := by
 simp only [layF] at h;split at h
 · rename_i a b ha hb;split at h
   · rename_i hc;cases h;exact ⟨a,b,ha,hb,hc.1,hc.2,rfl⟩
   · cases h
 · cases h
theorem fieldsFit {N : Nat} {good : (k : K) → El k → Prop} {w : World} {cs : List Value} : ∀ (fs : List Field) (m o : Nat) (l : List (LK K)),layF S m o fs = some l →
    (∀ f ∈ fs,∀ m' l',layT S m' f.type = some l' → Fits S N good w l' ((cs.drop f.offset).take (S.P.cellsOf f.type))) → o + l.length ≤ cs.length → Fits S N good w l ((cs.drop o).take l.length)
 | [],m,o,l,h,_,_ => by
  have : l = [] := by cases m <;> simp [layF] at h <;> exact h
  subst this;exact ⟨[],trivial,by simp,fun j u hj => by simp at hj⟩
 | f :: fs,0,o,l,h,_,_ => by simp [layF] at h
 | f :: fs,m + 1,o,l,h,hf,hle => by
  obtain ⟨a,b,ha,hb,ho,hal,rfl⟩ := layF_cons h;have h1 := hf f (by simp) m a ha;rw [ho,← hal] at h1;rw [← hal] at hb;have h2 := fieldsFit fs m (o + a.length) b hb (fun f' hf' => hf f' (by simp [hf'])) (by simp at hle; omega);have := h1.append h2
  rwa [show (cs.drop o).take (a ++ b).length = (cs.drop o).take a.length ++ (cs.drop (o + a.length)).take b.length by
   rw [List.length_append,List.take_add,List.drop_drop]]
theorem lit_wf_int {k : IntKind} {n : Int} (h : (Lit.int k n).wf = true) : k.min ≤ n ∧ n ≤ k.max := by
 simp only [Lit.wf,Bool.and_eq_true,decide_eq_true_eq] at h;exact h
theorem cells_get {w : World} {a : Addr} {c : Nat} {ecs : List Value} (h : w.cells? 0 a c = some ecs) : ecs.length = c ∧ ∀ t,t < c → w.cell? (a.add t) = ecs[t]? := by
 unfold World.cells? at h;rw [if_pos (Nat.zero_le _)] at h;exact ⟨by simpa using mapM_some_length h,fun t ht => mapM_some_get h t t (by simp [ht])⟩
theorem slice_reads (ok : Ok S) {N : Nat} {good : (k : K) → El k → Prop} {w : World} {k : K} {a : Addr} {len cap : Nat} (hN : len ≤ N) (hlc : len ≤ cap) (hcm : cap ≤ maxLen)
    (key : ∀ i,i < len → ∃ ecs x,w.cells? 0 (a.add (i * S.size k)) (S.size k) = some ecs ∧ good k x ∧ ∀ (t : Nat) u,(S.enc k x)[t]? = some u → ∃ v,ecs[t]? = some v ∧ VR S E0 w u v) : Fits S N good w [.sl k] [.slice (some a) len cap] := by
 have hpos := ok.pos k
 rcases Nat.eq_zero_or_pos len with rfl | hl
 · exact Fits.one (u := .imm k []) ⟨Nat.zero_le _,rfl,fun x hx => by simp at hx⟩ rfl (.immNil _ _ hcm)
 · obtain ⟨b,o,sp⟩ := a
   have hsp : sp = none := by
    obtain ⟨ecs,_,h1,_⟩ := key 0 hl;obtain ⟨h2,h3⟩ := cells_get h1;have := h3 0 hpos;rw [Nat.zero_mul,show Addr.add (Addr.add ⟨b,o,sp⟩ 0) 0 = ⟨b,o,sp⟩ from rfl,List.getElem?_eq_getElem (by omega)] at this;unfold World.cell? at this;split at this
    · cases sp with
      | none => rfl
      | some s => simp at this
    · cases this
   subst hsp
   let X : Fin len → El k := fun i => Classical.choose (Classical.choose_spec (key i.1 i.2))
   have hX : ∀ i : Fin len,∃ ecs,w.cells? 0 (Addr.add ⟨b,o,none⟩ (i.1 * S.size k)) (S.size k) = some ecs ∧ good k (X i) ∧ ∀ (t : Nat) u,(S.enc k (X i))[t]? = some u → ∃ v,ecs[t]? = some v ∧ VR S E0 w u v :=
    fun i => ⟨_,Classical.choose_spec (Classical.choose_spec (key i.1 i.2))⟩
   have hcell : ∀ (i t : Nat) (hi : i < len),t < S.size k → ∃ ecs : List Value,w.cells? 0 (Addr.add ⟨b,o,none⟩ (i * S.size k)) (S.size k) = some ecs ∧ w.cell? ⟨b,o + (i * S.size k + t),none⟩ = ecs[t]? ∧ ecs.length = S.size k := by
    intro i t hi ht;obtain ⟨ecs,h1,_⟩ := hX ⟨i,hi⟩;obtain ⟨h2,h3⟩ := cells_get h1;have := h3 t ht;rw [add_lit,add_lit,Nat.add_assoc] at this;exact ⟨ecs,h1,this,h2⟩
   refine Fits.one (u := .imm k (List.ofFn X)) ⟨by simp; omega,rfl,fun x hx => ?_⟩ rfl ?_
   · obtain ⟨i,rfl⟩ := List.mem_ofFn.1 hx;obtain ⟨_,_,h2,_⟩ := hX i;exact h2
   · have hlen : (List.ofFn X).length = len := List.length_ofFn;have := VR.imm (S := S) (E := E0) (w := w) (k := k) (xs := List.ofFn X) b o cap (fun n => (w.cell? ⟨b,o + n,none⟩).getD undef) (fun _ => stable_nil b) (by omega) hcm (fun n hn => ?_) (fun j x t u hx hu => ?_)
     · rw [hlen] at this;exact this
     · rw [hlen] at hn;have hi : n / S.size k < len := Nat.div_lt_of_lt_mul (by rwa [Nat.mul_comm]);have ht : n % S.size k < S.size k := Nat.mod_lt _ hpos;obtain ⟨ecs,_,h2,h3⟩ := hcell _ _ hi ht;rw [show n / S.size k * S.size k + n % S.size k = n by rw [Nat.mul_comm]; exact Nat.div_add_mod n _] at h2;rw [h2,List.getElem?_eq_getElem (by omega)];rfl
     · have hj : j < len := by have := (List.getElem?_eq_some_iff.1 hx).1; omega
       have htl : t < S.size k := by rw [← ok.enc_len k x]; exact (List.getElem?_eq_some_iff.1 hu).1
       have hxe : X ⟨j,hj⟩ = x := by
        rw [List.getElem?_eq_getElem (by omega)] at hx;have := Option.some.inj hx;rw [← this]; simp
       obtain ⟨ecs,h1,_,h3⟩ := hX ⟨j,hj⟩;rw [hxe] at h3;obtain ⟨v,hv,hvr⟩ := h3 t u hu;obtain ⟨ecs',h1',h2',_⟩ := hcell j t hj htl;rw [h1] at h1';cases h1';simp only [h2',hv,Option.getD_some];exact hvr
theorem reads (ok : Ok S) (R : Reads S) {Hd : Type} {Q : DataW Hd → Prop} (hS : Small R.N Q) {enc : TypeId × Value → Hd} {w : World} : ∀ (n : Nat) (t : TypeId) (cs : List Value) (x : DataW Hd × List MemPlace),DataW.trod enc S.P w 0 (fun _ => true) true n t cs = some x → Q x.1 →
    ∀ (m : Nat) (l : List (LK K)),layT S m t = some l → Fits S R.N R.good w l cs
 | n,t,cs,x,hx,hq,0,l,hl => by simp [layT] at hl
 | n,t,cs,x,hx,hq,m + 1,l,hl => by
  simp only [layT] at hl;split at hl
  · rename_i hu;cases hl;obtain ⟨b,rfl,_⟩ := DataW.trod_bool hu hx;exact Fits.one (u := .bool b) trivial rfl (.bool b)
  · rename_i k hu;cases hl;obtain ⟨i,rfl,_,hw⟩ := DataW.trod_int hu hx;exact Fits.one (u := .int k i) ⟨rfl,hw⟩ rfl (.int k i)
  · rename_i hu;cases hl;obtain ⟨s,rfl,rfl,hs⟩ := DataW.trod_string hu hx;exact Fits.one (u := .str s) (hS.str hq hs) rfl (.str s)
  · rename_i e hu;split at hl
    · rename_i k hk;cases hl;have hke := ok.kd e k hk;subst hke;obtain ⟨ti,z,hti,htsz,_⟩ := ok.info k;have hce : S.P.cellsOf (S.ty k) = S.size k := by simp [Program.cellsOf,hti,htsz]
      rcases DataW.trod_slice hu hx with ⟨rfl,_⟩ | ⟨a,len,cap,elems,rest,n',rfl,rfl,rfl,_,hlc,hcm,hel,hget,_⟩
      · exact Fits.one (u := .imm k []) ⟨Nat.zero_le _,rfl,fun x hx => by simp at hx⟩ rfl (.immNil _ _ (Nat.zero_le _))
      · have hq' := hS.sl hq (by simp; omega);refine slice_reads ok (by have := hq'.1; simp at this; omega) hlc hcm fun i hi => ?_;have hg := hget i hi;rw [List.getElem?_eq_getElem (by omega),Option.bind_eq_some_iff] at hg;obtain ⟨ecs,h1,h2⟩ := hg;rw [hce] at h1;obtain ⟨us,k1,k2,k3⟩ := reads ok R hS n' _ _ _ h2 (hq'.2 _ (List.mem_map_of_mem (List.getElem_mem _))) 20 _ (R.lay k);obtain ⟨y,rfl,hy⟩ := R.make k us k1;exact ⟨ecs,y,h1,hy,fun t u hu => let ⟨v,h4,_,h6⟩ := k3 t u hu; ⟨v,h4,h6⟩⟩
    · cases hl
      rcases DataW.trod_slice hu hx with ⟨rfl,_⟩ | ⟨a,len,cap,_,_,_,rfl,rfl,_⟩
      · exact Fits.one (u := .cell) trivial rfl (.cell _ rfl)
      · exact Fits.one (u := .cell) trivial rfl (.cell _ rfl)
  · rename_i fs hu;obtain ⟨xs,n',rfl,rfl,hlen,_,hf⟩ := DataW.trod_struct hu hx;split at hl
    · rename_i l' hl';split at hl
      · rename_i hc;cases hl
        have := fieldsFit (good := R.good) (w := w) (cs := cs) fs.toList m 0 l hl' (fun f hf' m' l' h' => by
         obtain ⟨i,hi⟩ := List.getElem?_of_mem hf';have hi' : fs[i]? = some f := by simpa using hi
         have := hf i f hi'
         cases hq1 : xs[i]? with
         | none =>
          have hlt := (Array.getElem?_eq_some_iff.1 hi').1;rw [List.getElem?_eq_none_iff] at hq1;omega
         | some y =>
          rw [hq1] at this
          exact reads ok R hS n' f.type _ y this (hS.agg hq _ (List.mem_map_of_mem (List.mem_of_getElem? hq1))) m' l' h') (by simp [hlen,hc])
        rw [List.drop_zero,hc,← hlen,List.take_length] at this;exact this
      · cases hl
    · cases hl
  · cases hl
termination_by n => n
decreasing_by all_goals subst_vars; omega
theorem arg_agg (ok : Ok S) (R : Reads S) {Hd : Type} {Q : DataW Hd → Prop} (hS : Small R.N Q) {enc : TypeId × Value → Hd} {W : World} {r : Reach} {b0 : Nat} {t : TypeId} {fs : Array Field} {v : Value} {d : DataW Hd} {ps : List MemPlace} {m : Nat} {l : List (LK K)} (hs : S.P.underlying t = some (.struct fs))
    (hl : layT S m t = some l) (hok : Value.okWide S.P W r b0 t v) (h : DataW.Trod enc S.P W 0 (fun _ => true) true t v d ps) (hq : Q d) : ∃ us,Typed R.N R.good l us ∧ VR2 S E0 W (.agg us) v := by
 obtain ⟨cs,rfl,_⟩ := okWide_struct hs hok;obtain ⟨n,hn⟩ := h;obtain ⟨us,h1,h2,h3⟩ := reads ok R hS n t _ _ hn hq m l hl;exact ⟨us,h1,cs,rfl,by simpa [Value.cells] using h2.symm,fun j u hj => by simpa [Value.cells] using h3 j u hj⟩
theorem arg_slice (ok : Ok S) (R : Reads S) {Hd : Type} {Q : DataW Hd → Prop} (hS : Small R.N Q) {enc : TypeId × Value → Hd} {W : World} {r : Reach} {b0 : Nat} {t : TypeId} {e : TypeId} {v : Value} {d : DataW Hd} {ps : List MemPlace} {k : K} (hs : S.P.underlying t = some (.slice e))
    (hk : S.kd e = some k) (hok : Value.okWide S.P W r b0 t v) (h : DataW.Trod enc S.P W 0 (fun _ => true) true t v d ps) (hq : Q d) : ∃ xs : List (El k),xs.length ≤ R.N ∧ (∀ x ∈ xs,R.good k x) ∧ VR2 S E0 W (.imm k xs) v := by
 obtain ⟨a,len,cap,rfl⟩ := okWide_slice hs hok;obtain ⟨n,hn⟩ := h;obtain ⟨us,h1,h2,h3⟩ := reads ok R hS n t _ _ hn hq 1 [.sl k] (by simp [layT,hs,hk]);obtain ⟨u,r,rfl,hu,hr⟩ := h1.uncons;obtain rfl := hr.unnil;obtain ⟨xs,rfl,hl,hg⟩ := hu.sl;obtain ⟨v',hv',_,hvr⟩ := h3 0 _ rfl;obtain rfl : v' = .slice a len cap := by simpa [Value.cells] using hv'.symm
 exact ⟨xs,hl,hg,hvr⟩
end Sh
end Go.Proofs.YtomdfaelgcefdaaGreatDoor
