/- Sh11 Sh12. -/
import Derived.Test.YtomdfaelgcefdaaGreatDoorGac
set_option maxRecDepth 100000
set_option maxHeartbeats 64000000
namespace Go.Proofs.YtomdfaelgcefdaaGreatDoor
open Go
namespace Sh
variable {K : Type} {El : K → Type}
def cOpd : Operand → Option (Opd K El)
 | .tmp t => some (.tmp t)
 | .const v => (constV v).map .const
 | .func f => some (.const (.fn f))
 | .global _ => none
def cAll : List Operand → Option (List (Opd K El))
 | [] => some []
 | x :: xs => match cOpd x,cAll xs with
  | some u,some us => some (u :: us)
  | _,_ => none
def sizeA (P : Program) (t : TypeId) : Option (Nat × Bool) := match P.info? t,P.underlying t with
 | some i,some (.struct _) => some (i.size,true)
 | some i,some (.array _ _) => some (i.size,true)
 | some i,some _ => if i.size = 1 then some (1,false) else none
 | _,_ => none
def zeroA (P : Program) (t : TypeId) : Option (List (AV K El)) := match P.info? t with
 | some i => match i.zero with
  | some z => z.cells.toList.mapM constAV
  | none => none
 | none => none
def rowK (S : Seat K El) (t : TypeId) : Option K := match S.P.underlying t with
 | some (.slice e) => S.kd e
 | _ => none
def placesA (P : Program) (t : TypeId) : Option (List (Nat × Nat)) := match P.underlying t with
 | some (.struct fs) => fs.toList.mapM fun f => (P.info? f.type).map fun i => (f.offset,i.size)
 | some (.array n e) => (P.info? e).map fun i => (List.range n).map fun j => (j * i.size,i.size)
 | _ => none
def fieldA (P : Program) (t : TypeId) (f : Nat) : Option (Nat × TypeId) := match P.underlying t with
 | some (.struct fs) => match fs[f]? with
  | some fd => some (fd.offset,fd.type)
  | none => none
 | _ => none
def tcA (P : Program) (t : TypeId) : Option TC := match P.underlying t with
 | some (.int _) | some .string => some .num
 | some .bool => some .boo
 | some (.pointer _) => some .ptr
 | some (.func _ _ _) => some .fn
 | some (.struct _) => match plainT P 20 t,P.info? t with
  | some ks,some i => if i.size = ks.length ∧ P.eqGuardType P.depth t = false then some (.agg ks) else none
  | _,_ => none
 | some (.array _ _) => match plainT P 20 t,P.info? t with
  | some ks,some i => if i.size = ks.length ∧ P.eqGuardType P.depth t = false then some (.agg ks) else none
  | _,_ => none
 | _ => none
def eqC : AV K El → AV K El → Bool
 | .int k n,.int k' n' => decide (k = k' ∧ n = n')
 | .bool a,.bool b => a == b
 | _,_ => false
def eqCL : List (AV K El) → List (AV K El) → Bool
 | [],[] => true
 | u :: us,v :: vs => eqC u v && eqCL us vs
 | _,_ => false
theorem eqC_eq {u v : AV K El} (h : eqC u v = true) : u = v := by
 unfold eqC at h;split at h
 · obtain ⟨rfl,rfl⟩ := of_decide_eq_true h; rfl
 · rw [eq_of_beq h]
 · cases h
theorem eqCL_eq : ∀ {us vs : List (AV K El)},eqCL us vs = true → us = vs
 | [],[],_ => rfl
 | [],_ :: _,h => by simp [eqCL] at h
 | _ :: _,[],h => by simp [eqCL] at h
 | u :: us,v :: vs,h => by
  simp only [eqCL,Bool.and_eq_true] at h;rw [eqC_eq h.1,eqCL_eq h.2]
def arrA (S : Seat K El) (t : TypeId) : Option (K × Nat) := match S.P.underlying t,zeroA S.P t with
 | some (.array n e),some z => match S.kd e with
  | some k => if eqCL z (List.replicate n (S.enc k (S.zero k))).flatten = true then some (k,n) else none
  | none => none
 | _,_ => none
def strA (P : Program) (t : TypeId) : Bool := match P.underlying t with
 | some .string => true
 | _ => false
def keyA (P : Program) (t : TypeId) : Option CK := match P.underlying t with
 | some (.int _) => some .i
 | some .string => some .s
 | some .bool => some .b
 | _ => none
def mapA (P : Program) (t : TypeId) : Option CK := match P.underlying t with
 | some (.map key _) => keyA P key
 | _ => none
def zero1 (P : Program) (t : TypeId) : Option (AV K El) := match P.info? t with
 | some i => match i.zero with
  | some z => constAV z
  | none => none
 | none => none
def compileOp (S : Seat K El) (o : Oper) : Option (Prim K El × List (Opd K El)) := match o.op with
 | .move x | .assign x => (cAll [x]).map fun xs => (.mov,xs)
 | .pick c a b => (cAll [c,a,b]).map fun xs => (.pick,xs)
 | .alloc t => match arrA S t with
  | some (k,n) => some (.alloca k n,[])
  | none => (zeroA S.P t).map fun z => (.alloc z,[])
 | .box _ x => (cAll [x]).map fun xs => (.box,xs)
 | .build t parts => match placesA S.P t,zeroA S.P t,cAll (parts.toList.map (·.2)) with
  | some places,some z,some xs => ((parts.toList.map (·.1)).mapM fun i => places[i]?).map fun ps => (.build z ps,xs)
  | _,_,_ => none
 | .buildSlice t len parts => match rowK S t,cAll (parts.toList.map (·.2)) with
  | some k,some xs => if parts.toList.map (·.1) = List.range' 0 len ∧ len * S.size k ≤ 16777216 then some (.mkrow k,xs) else none
  | _,_ => none
 | .load t a => match sizeA S.P t with
  | some (n,ag) => (cAll [a]).map fun xs => (.load n ag,xs)
  | none => none
 | .store t a x => match sizeA S.P t with
  | some (n,_) => (cAll [a,x]).map fun xs => (.store n,xs)
  | none => none
 | .nilCheck x => (cAll [x]).map fun xs => (.nilck,xs)
 | .binOp op t x y _ => match tcA S.P t with
  | some c => (cAll [x,y]).map fun xs => (.bin op c,xs)
  | none => none
 | .unOp op _ x => (cAll [x]).map fun xs => (.un op,xs)
 | .convert s d x => match S.P.underlying s,S.P.underlying d with
  | some (.int _),some (.int k) => (cAll [x]).map fun xs => (.conv k,xs)
  | some (.slice e),some .string => match rowK S s,S.P.underlying e with
   | some k,some (.int .u8) => (cAll [x]).map fun xs => (.b2s k,xs)
   | _,_ => none
  | _,_ => none
 | .range t x => match S.P.underlying t with
  | some .string => (cAll [x]).map fun xs => (.rangeS,xs)
  | some (.map _ _) => (cAll [x]).map fun xs => (.rangeM,xs)
  | _ => none
 | .next it true => (cAll [it]).map fun xs => (.nextS,xs)
 | .next it false => (cAll [it]).map fun xs => (.nextM,xs)
 | .slice t x lo hi mx => match rowK S t with
  | some k => if mx.isSome = true → hi.isSome = true then (cAll (x :: (lo.toList ++ hi.toList ++ mx.toList))).map fun xs => (.slice k lo.isSome hi.isSome mx.isSome,xs) else none
  | none => match S.P.underlying t,mx with
   | some .string,none => (cAll (x :: (lo.toList ++ hi.toList))).map fun xs => (.sslice lo.isSome hi.isSome,xs)
   | some (.array n e),none => match S.kd e,lo,hi with
    | some k,none,some h => (cAll [x,h]).map fun xs => (.slicea k n,xs)
    | _,_,_ => none
   | _,_ => none
 | .fieldAddr s x f => match fieldA S.P s f with
  | some (off,t) => match S.P.info? t with
   | some i => if i.size = 0 then none else (cAll [x]).map fun xs => (.faddr off,xs)
   | none => none
  | none => none
 | .field s x f => match fieldA S.P s f with
  | some (off,t) => match sizeA S.P t with
   | some (n,ag) => (cAll [x]).map fun xs => (.field off n ag,xs)
   | none => none
  | none => none
 | .indexAddr t x i => match rowK S t with
  | some k => (cAll [x,i]).map fun xs => (.iaddr k,xs)
  | none => none
 | .index t x i => match S.P.underlying t with
  | some .string => (cAll [x,i]).map fun xs => (.sindex,xs)
  | some (.array len e) => match sizeA S.P e with
   | some (n,ag) => (cAll [x,i]).map fun xs => (.aindex len n ag,xs)
   | none => none
  | _ => none
 | .extract x j => (cAll [x]).map fun xs => (.extract j,xs)
 | .call c => match c.callee with
  | .value (.func f) => if callable S.P f then (cAll c.args.toList).map fun xs => (.call f,xs) else none
  | .value (.tmp t) => (cAll c.args.toList).map fun xs => (.callv,.tmp t :: xs)
  | .builtin .append => match c.argTypes.toList,c.args.toList with
   | [t,t'],[s,x] => match rowK S t with
    | some k => if t = t' then (cAll [s,x]).map fun xs => (.append k,xs) else if strA S.P t' then (cAll [s,x]).map fun xs => (.appendS k,xs) else none
    | none => none
   | _,_ => none
  | .builtin .len => match c.argTypes.toList,c.args.toList with
   | [t],[x] => match S.P.underlying t with
    | some (.slice _) => (cAll [x]).map fun xs => (.len false,xs)
    | some .string => (cAll [x]).map fun xs => (.len true,xs)
    | _ => none
   | _,_ => none
  | .builtin .copy => match c.argTypes.toList,c.args.toList with
   | [t,_],[d,s] => match rowK S t with
    | some k => (cAll [d,s]).map fun xs => (.copy k,xs)
    | none => none
   | _,_ => none
  | _ => none
 | .makeSlice t l c => match rowK S t with
  | some k => (cAll [l,c]).map fun xs => (.mkslice k,xs)
  | none => none
 | .makeFunc (.func f) first captured => if callable S.P f = true ∧ first = #[] then (cAll captured.toList).map fun xs => (.mkfn f,xs) else none
 | .makeMap _ none => some (.mkmap,[])
 | .makeMap t (some (.const (.int _ _))) => match S.P.underlying t with
  | some (.map _ _) => some (.mkmap,[])
  | _ => none
 | .lookup t x i ck => match S.P.underlying t with
  | some (.map key e) => match keyA S.P key,zero1 S.P e with
   | some c,some z => (cAll [x,i]).map fun xs => (.mlook c z ck,xs)
   | _,_ => none
  | _ => none
 | .mapUpdate t m key v => match mapA S.P t with
  | some c => (cAll [m,key,v]).map fun xs => (.mput c,xs)
  | none => none
 | .insert t m key v => match mapA S.P t with
  | some c => (cAll [m,key,v]).map fun xs => (.mput c,xs)
  | none => none
 | _ => none
def opdV (fr : Nat → AV K El) : Opd K El → AV K El
 | .tmp t => fr t
 | .const v => v
variable {S : Seat K El}
def FrR (S : Seat K El) (E : Env) (w : World) (fr : Nat → AV K El) (a : Act) : Prop := ∀ t,VRv S E w (fr t) (a.tmps.getD t undef)
theorem VR2.to {E : Env} {w : World} {u : AV K El} {v : Value} (h : VR2 S E w u v) : VRv S E w u v := by
 cases u
 case tup us => cases (show VR S E w (.tup us) v from h)
 all_goals exact h
section
variable (ok : Ok S) {E : Env} {H : Heap K El} {w : World} {a : Act} {fr : Nat → AV K El}
theorem cOpd_sound {X : Operand} {x : Opd K El} (h : cOpd X = some x) (hf : FrR S E w fr a) : VRv S E w (opdV fr x) (a.eval X) := by
 cases X with
 | tmp t => simp [cOpd] at h; subst h; exact hf t
 | const v =>
  simp only [cOpd] at h
  cases hc : (constV v : Option (AV K El)) with
  | none => rw [hc] at h; simp at h
  | some u => rw [hc] at h; simp at h; subst h; exact (constV_VR hc E w).to
 | func f => simp [cOpd] at h; subst h; exact VR.fn f
 | global g => simp [cOpd] at h
theorem cAll_sound : ∀ {l : List Operand} {xs : List (Opd K El)},cAll l = some xs → FrR S E w fr a → xs.length = l.length ∧ ∀ (j : Nat) X x,l[j]? = some X → xs[j]? = some x → VRv S E w (opdV fr x) (a.eval X)
 | [],xs,h,_ => by simp [cAll] at h; subst h; exact ⟨rfl,fun j X x h => by simp at h⟩
 | X :: l,xs,h,hf => by
  simp only [cAll] at h;split at h
  · rename_i u us hu hus;simp at h;subst h;obtain ⟨h1,h2⟩ := cAll_sound hus hf;refine ⟨by simp [h1],fun j Y y hY hy => ?_⟩
    cases j with
    | zero => simp at hY hy; subst hY; subst hy; exact cOpd_sound hu hf
    | succ j => exact h2 j Y y (by simpa using hY) (by simpa using hy)
  · cases h
theorem cAll1 {x : Operand} {xs : List (Opd K El)} (h : cAll [x] = some xs) (hf : FrR S E w fr a) : ∃ u,xs = [u] ∧ VRv S E w (opdV fr u) (a.eval x) := by
 obtain ⟨h1,h2⟩ := cAll_sound h hf
 match xs,h1 with
 | [u],_ => exact ⟨u,rfl,h2 0 x u rfl rfl⟩
theorem cAll2 {x y : Operand} {xs : List (Opd K El)} (h : cAll [x,y] = some xs) (hf : FrR S E w fr a) : ∃ u v,xs = [u,v] ∧ VRv S E w (opdV fr u) (a.eval x) ∧ VRv S E w (opdV fr v) (a.eval y) := by
 obtain ⟨h1,h2⟩ := cAll_sound h hf
 match xs,h1 with
 | [u,v],_ => exact ⟨u,v,rfl,h2 0 x u rfl rfl,h2 1 y v rfl rfl⟩
theorem cAll3 {x y z : Operand} {xs : List (Opd K El)} (h : cAll [x,y,z] = some xs) (hf : FrR S E w fr a) : ∃ u v t,xs = [u,v,t] ∧ VRv S E w (opdV fr u) (a.eval x) ∧ VRv S E w (opdV fr v) (a.eval y) ∧ VRv S E w (opdV fr t) (a.eval z) := by
 obtain ⟨h1,h2⟩ := cAll_sound h hf
 match xs,h1 with
 | [u,v,t],_ => exact ⟨u,v,t,rfl,h2 0 x u rfl rfl,h2 1 y v rfl rfl,h2 2 z t rfl rfl⟩
theorem wp_value {P : Program} {o : Oper} {w' : World} {v : Value} {next : Act → World → Prop} {Q : Exit → Act → World → Prop} (hr : (execOp a.eval o).run P w = .ok (.value v) w') (h : next (a.put o.dst v) w') : o.wp P a w next Q := by
 unfold Oper.wp; rw [hr]; exact h
def Cont (S : Seat K El) (E : Env) (w : World) (a : Act) (o : Oper) (next : Act → World → Prop) (k : AV K El → Heap K El → Prop) : Prop :=
 ∀ r H' E' w' v,k r H' → Emb S E' H' w' → Ext E w E' w' → VRv S E' w' r v → next (a.put o.dst v) w'
variable {o : Oper} {k : AV K El → Heap K El → Prop} {next : Act → World → Prop} {Q : Exit → Act → World → Prop}
theorem op_mov {X : Operand} (ho : o.op = .move X ∨ o.op = .assign X) (hE : Emb S E H w) {x : AV K El} (hx : VRv S E w x (a.eval X)) (hG : k x H) (hn : Cont S E w a o next k) : o.wp S.P a w next Q := by
 refine wp_value (w' := w) (v := a.eval X) ?_ (hn x H E w _ hG hE Ext.refl hx)
 rcases ho with ho | ho <;> simp [execOp,ho]
theorem op_pick {C A B : Operand} (ho : o.op = .pick C A B) (hE : Emb S E H w) {c : Bool} {x y : AV K El} (hc : VRv S E w (.bool c) (a.eval C)) (hx : VRv S E w x (a.eval A)) (hy : VRv S E w y (a.eval B)) (hG : k (cond c x y) H) (hn : Cont S E w a o next k) : o.wp S.P a w next Q := by
 have hcv : a.eval C = .bool c := by
  have : VR S E w (.bool c) (a.eval C) := hc;generalize a.eval C = v at this;cases this; rfl
 refine wp_value (w' := w) (v := if c then a.eval A else a.eval B) ?_ (hn _ H E w _ hG hE Ext.refl ?_)
 · simp [execOp,ho,hcv,asBool]
 · cases c <;> simpa
include ok in
theorem emb_cells (hE : Emb S E H w) {us : List (AV K El)} {cs : Array Value} (hc : CellsR S E w us cs) (t : TypeId) :
    Emb S ⟨E.ρ ++ [.blk w.heap.size],E.F⟩ (H ++ [.cells us]) (w.alloc (.cells cs t)) ∧ Ext E w ⟨E.ρ ++ [.blk w.heap.size],E.F⟩ (w.alloc (.cells cs t)) ∧
     VRv S ⟨E.ρ ++ [.blk w.heap.size],E.F⟩ (w.alloc (.cells cs t)) (.ptr H.length 0) (.pointer (some ⟨w.heap.size,0,none⟩)) := by
 have hx : Ext E w ⟨E.ρ ++ [.blk w.heap.size],E.F⟩ (w.alloc (.cells cs t)) := ext_push (w1 := w.alloc (.cells cs t)) (o := .cells cs t) rfl rfl rfl rfl;refine ⟨emb_push (w1 := w.alloc (.cells cs t)) ok hE (c := cs) (e := t) (o := .cells us) rfl rfl rfl rfl ?_,hx,VR.ptr (by simp only []; rw [← hE.len]; simp)⟩;exact ⟨cs,t,heap_alloc_new w _,hc.1,fun j u hu => let ⟨c,k1,k2,k3⟩ := hc.2 j u hu; ⟨c,k1,k2,VR.mono ok hx k3⟩⟩
theorem const_cells {l : Array Value} {us : List (AV K El)} (h : l.toList.mapM constAV = some us) : CellsR S E w us l := by
 obtain ⟨h1,h2⟩ := mapM_const h;refine ⟨by simpa using h1.symm,fun j u hu => ?_⟩;have hj : j < l.size := by have := (List.getElem?_eq_some_iff.1 hu).1; simp at h1; omega
 have hcv := h2 j l[j] u (by simp [hj]) hu;obtain ⟨k1,k2⟩ := constAV_VR (S := S) hcv E w;exact ⟨l[j],by simp [hj],k2,k1⟩
theorem zeroA_some {P : Program} {t : TypeId} {z : List (AV K El)} (h : zeroA P t = some z) : ∃ i zv,P.info? t = some i ∧ i.zero = some zv ∧ zv.cells.toList.mapM constAV = some z := by
 unfold zeroA at h;split at h
 · rename_i i hi;split at h
   · rename_i zv hzv; exact ⟨i,zv,hi,hzv,h⟩
   · cases h
 · cases h
include ok in
theorem op_alloc {t : TypeId} (ho : o.op = .alloc t) (hE : Emb S E H w) {z : List (AV K El)} (hz : zeroA S.P t = some z) (hG : k (.ptr H.length 0) (H ++ [.cells z])) (hn : Cont S E w a o next k) : o.wp S.P a w next Q := by
 obtain ⟨i,zv,hi,hzv,hm⟩ := zeroA_some hz;obtain ⟨h1,h2,h3⟩ := emb_cells ok hE (const_cells hm) t;refine wp_value ?_ (hn _ _ _ _ _ hG h1 h2 h3);simp [execOp,ho,Instr.alloc,zeroValue,typeInfo,hi,hzv,newVar,newRow]
include ok in
theorem op_box {t : TypeId} {X : Operand} (ho : o.op = .box t X) (hE : Emb S E H w) {x : AV K El} (hx : VRv S E w x (a.eval X)) (hone : x.cells.all AV.one = true) (hG : k (.ptr H.length 0) (H ++ [.cells x.cells])) (hn : Cont S E w a o next k) : o.wp S.P a w next Q := by
 have hx2 : VR2 S E w x (a.eval X) := by
  cases x
  case tup us => simp [AV.cells,AV.one] at hone
  all_goals exact hx
 obtain ⟨h1,h2,h3⟩ := emb_cells ok hE (hx2.cells hone) t;refine wp_value ?_ (hn _ _ _ _ _ hG h1 h2 h3);simp [execOp,ho,Instr.box,newVar,newRow]
theorem lay_one : ∀ {ps : List (Nat × Nat)} {us z z' : List (AV K El)},lay z ps us = some z' → ∀ (j : Nat) u,us[j]? = some u → u.cells.all AV.one = true
 | [],[],z,z',_,j,u,hu => by simp at hu
 | [],_ :: _,z,z',h,j,u,_ => by simp [lay] at h
 | _ :: _,[],z,z',h,j,u,_ => by simp [lay] at h
 | (off,n) :: ps,v :: vs,z,z',h,j,u,hu => by
  simp only [lay] at h;split at h
  · rename_i hc
    cases j with
    | zero => simp at hu; subst hu; exact hc.2.2
    | succ j => exact lay_one h j u (by simpa using hu)
  · cases h
theorem VRv.two {u : AV K El} {v : Value} (h : VRv S E w u v) (hone : u.cells.all AV.one = true) : VR2 S E w u v := by
 cases u
 case tup us => simp [AV.cells,AV.one] at hone
 all_goals exact h
theorem op_build {t : TypeId} {parts : Array (Nat × Operand)} (ho : o.op = .build t parts) (hE : Emb S E H w) (hf : FrR S E w fr a) {places : List (Nat × Nat)} (hp : placesA S.P t = some places) {z : List (AV K El)} (hz : zeroA S.P t = some z)
    {xs : List (Opd K El)} (hxs : cAll (parts.toList.map (·.2)) = some xs) {ps : List (Nat × Nat)} (hps : (parts.toList.map (·.1)).mapM (fun i => places[i]?) = some ps) {cs : List (AV K El)} (hl : lay z ps (xs.map (opdV fr)) = some cs)
    (hG : k (.agg cs) H) (hn : Cont S E w a o next k) : o.wp S.P a w next Q := by
 obtain ⟨i,zv,hi,hzv,hm⟩ := zeroA_some hz;obtain ⟨hxl,hxv⟩ := cAll_sound hxs hf
 have hmap : ∀ (l : List Nat) (ps : List (Nat × Nat)),l.mapM (fun i => places[i]?) = some ps → l.length = ps.length ∧ ∀ (j : Nat) i p,l[j]? = some i → ps[j]? = some p → places[i]? = some p := by
  intro l
  induction l with
  | nil => intro ps h; simp at h; subst h; exact ⟨rfl,fun j i p h => by simp at h⟩
  | cons a l ih =>
   intro ps h;simp only [List.mapM_cons,Option.bind_eq_bind,Option.pure_def] at h
   cases ha : places[a]? with
   | none => simp [ha] at h
   | some q =>
    cases hr : l.mapM (fun i => places[i]?) with
    | none => simp [ha,hr] at h
    | some qs =>
     simp [ha,hr] at h;subst h;obtain ⟨h1,h2⟩ := ih qs hr;refine ⟨by simp [h1],fun j i p hj hp => ?_⟩
     cases j with
     | zero => simp at hj hp; subst hj; subst hp; exact ha
     | succ j => exact h2 j i p (by simpa using hj) (by simpa using hp)
 obtain ⟨hpl,hpp⟩ := hmap _ _ hps
 have hfill := fun (pl : Nat → Option (Nat × Nat)) (hpl' : ∀ i p,places[i]? = some p → pl i = some p) => lay_fill (S := S) (E := E) (w := w) pl ps (parts.toList.map (·.1)) (xs.map (opdV fr)) (parts.toList.map fun p => a.eval p.2) z cs zv.cells hl hpl (by simp [hxl])
  (fun j i p hj hp => hpl' i p (hpp j i p hj hp)) (fun j u v hu hv => by
   have hone := lay_one hl j u hu;rw [List.getElem?_map] at hu hv
   cases hq : xs[j]? with
   | none => rw [hq] at hu; simp at hu
   | some x =>
    cases hq' : parts.toList[j]? with
    | none => rw [hq'] at hv; simp at hv
    | some p =>
     rw [hq] at hu; rw [hq'] at hv;simp at hu hv;subst hu; subst hv
     exact (hxv j p.2 x (by rw [List.getElem?_map,hq']; rfl) hq).two hone) (const_cells hm)
 have hzip : (parts.toList.map (·.1)).zip (parts.toList.map fun p => a.eval p.2) = (parts.map fun (i,x) => (i,a.eval x)).toList := by
  rw [Array.toList_map];generalize parts.toList = l
  induction l with
  | nil => rfl
  | cons p l ih => simp [ih]
 rw [hzip] at hfill
 obtain ⟨cc,hb,h2⟩ : ∃ cc,S.P.built t (parts.map fun (i,x) => (i,a.eval x)).toList = some cc ∧ CellsR S E w cs cc := by
  unfold placesA at hp;split at hp
  · rename_i fs hfs;obtain ⟨cc,h1,h2⟩ := hfill (fun i => places.toArray[i]?) (fun i p h => by simpa using h);refine ⟨cc,?_,h2⟩;simp only [Program.built,hi,hfs,hzv,hp];exact h1
  · rename_i n e he
    cases hie : S.P.info? e with
    | none => rw [hie] at hp; simp at hp
    | some ie =>
     rw [hie] at hp;simp only [Option.map_some,Option.some.injEq] at hp
     obtain ⟨cc,h1,h2⟩ := hfill (fun i => some (i * ie.size,ie.size)) (fun i p h => by
      rw [← hp,List.getElem?_map] at h
      cases hq : (List.range n)[i]? with
      | none => rw [hq] at h; simp at h
      | some q =>
       rw [hq] at h
       have : q = i := by
        have := List.getElem?_eq_some_iff.1 hq;simpa using this.2.symm
       subst this
       exact h)
     refine ⟨cc,?_,h2⟩;simp only [Program.built,hi,he,hzv,hie];exact h1
  · cases hp
 refine wp_value (w' := w) (v := .agg cc) ?_ (hn _ _ _ _ _ hG hE Ext.refl ⟨cc,rfl,h2.1,h2.2⟩);have := run_build w t (parts.map fun (i,x) => (i,a.eval x)) cc hb;simp [execOp,ho,this]
theorem rowK_some {t : TypeId} {kk : K} (hk : rowK S t = some kk) (ok : Ok S) : S.P.underlying t = some (.slice (S.ty kk)) := by
 unfold rowK at hk;split at hk
 · rename_i e he; rw [he,ok.kd e kk hk]
 · cases hk
theorem unc_one (ok : Ok S) {kk : K} {us : List (AV K El)} {x : El kk} (h : S.unc kk us = some x) : us.all AV.one = true := by
 have := ok.unc_enc kk us x h;subst this;exact List.all_eq_true.2 fun u hu => ok.one kk x u hu
theorem VR.to_full {kk : K} {i lo len : Nat} {c : Cp} {v : Value} (h : VR S E w (.own kk i lo len c) v) (hc : ∀ A n cap,v = .slice A n cap → cap = n) : VR S E w (.own kk i lo len .full) v := by
 cases h with
 | own h1 h2 h3 h4 h5 h6 => exact .own h1 (fun _ => hc _ _ _ rfl) (fun h => by cases h) h4 h5 h6
 | ownNil h1 => exact .ownNil h1
 | ownGone h1 h2 => exact .ownGone h1 h2
include ok in
theorem op_mkrow {t : TypeId} {len : Nat} {parts : Array (Nat × Operand)} (ho : o.op = .buildSlice t len parts) (hE : Emb S E H w) (hf : FrR S E w fr a) {kk : K} (hk : rowK S t = some kk)
    {xs : List (Opd K El)} (hxs : cAll (parts.toList.map (·.2)) = some xs) (hidx : parts.toList.map (·.1) = List.range' 0 len) (hcap : len * S.size kk ≤ 16777216)
    {ys : List (El kk)} (hr : rowOf S kk (xs.map (opdV fr)) = some ys) (hG : k (.own kk H.length 0 ys.length (cpOf ys)) (H ++ [.row kk ys])) (hn : Cont S E w a o next k) : o.wp S.P a w next Q := by
 have ht := rowK_some hk ok;obtain ⟨i,z,hi,hsz,hz,hzs,hby,hzz⟩ := ok.info kk;obtain ⟨hxl,hxv⟩ := cAll_sound hxs hf;obtain ⟨hyl,hyv⟩ := rowOf_get hr;have hpl : parts.toList.length = len := by have := congrArg List.length hidx; simpa using this
 have hyl' : ys.length = len := by rw [hyl]; simp [hxl]; simpa using hpl
 have hvals : ∀ v ∈ parts.toList.map (fun p => a.eval p.2),v.cells.size = S.size kk := by
  intro v hv;obtain ⟨j,hj⟩ := List.mem_iff_getElem?.1 hv;have hjl : j < parts.toList.length := by have := (List.getElem?_eq_some_iff.1 hj).1; simpa using this
  have hxj : j < xs.length := by rw [hxl]; simpa using hjl
  have hyj : j < ys.length := by omega
  have hu := hyv j (opdV fr xs[j]) ys[j] (by simp [hxj]) (List.getElem?_eq_getElem hyj);have hone := unc_one ok hu;rw [List.getElem?_map,List.getElem?_eq_getElem hjl] at hj;simp only [Option.map_some,Option.some.injEq] at hj;subst hj;have := ((hxv j parts.toList[j].2 xs[j] (by rw [List.getElem?_map,List.getElem?_eq_getElem hjl]; rfl) (List.getElem?_eq_getElem hxj)).two hone).cells hone;rw [this.1,← ok.unc_enc kk _ _ hu,ok.enc_len]
 have hinit : ∃ c0 : Array Value,c0.size = len * S.size kk ∧ (do
     let zero ← (if len * S.size kk = 0 then pure #[] else do pure (← zeroValue (S.ty kk)).cells : Sem (Array Value))
     pure ((Array.range (len * S.size kk)).map (zero[· % zero.size]!)) : Sem (Array Value)).run S.P w = .ok c0 w := by
  by_cases h0 : len * S.size kk = 0
  · refine ⟨#[],by simp [h0],by simp [h0]⟩
  · refine ⟨(Array.range (len * S.size kk)).map (z.cells[· % z.cells.size]!),by simp,by simp [h0,zeroValue,typeInfo,hi,hz]⟩
 obtain ⟨cc,g1,g2,_,g4⟩ := fill_row (S.size kk) (parts.toList.map fun p => a.eval p.2) 0 ((Array.range (len * S.size kk)).map ((if len * S.size kk = 0 then #[] else z.cells)[· % (if len * S.size kk = 0 then #[] else z.cells).size]!)) (by simp; simpa using (Nat.le_of_eq (congrArg (· * S.size kk) hpl))) hvals
 have hzip : (List.range' 0 (parts.toList.map fun p => a.eval p.2).length).zip (parts.toList.map fun p => a.eval p.2) = (parts.map fun (i,x) => (i,a.eval x)).toList := by
  rw [Array.toList_map,List.length_map,hpl,← hidx];generalize parts.toList = l
  induction l with
  | nil => rfl
  | cons p l ih => simp [ih]
 rw [hzip] at g1
 have hcells : CellsOf S E w kk ys cc.toList := by
  refine ⟨by simp [g2,hyl'],fun j y hy t' u hu => ?_⟩;have hyj := (List.getElem?_eq_some_iff.1 hy).1;have hjl : j < parts.toList.length := by omega
  have hxj : j < xs.length := by rw [hxl]; simpa using hjl
  have huu := hyv j (opdV fr xs[j]) y (by simp [hxj]) hy;have hone := unc_one ok huu;have hc := ((hxv j parts.toList[j].2 xs[j] (by rw [List.getElem?_map,List.getElem?_eq_getElem hjl]; rfl) (List.getElem?_eq_getElem hxj)).two hone).cells hone;rw [ok.unc_enc kk _ _ huu] at hu;obtain ⟨c,k1,_,k3⟩ := hc.2 t' u hu
  have htl : t' < S.size kk := by
   have := (List.getElem?_eq_some_iff.1 hu).1;rw [← ok.unc_enc kk _ _ huu,ok.enc_len] at this;exact this
  have := g4 j t' (a.eval parts.toList[j].2) (by rw [List.getElem?_map,List.getElem?_eq_getElem hjl]; rfl) htl;rw [Nat.zero_add] at this;exact ⟨c,by simpa using this.trans k1,k3⟩
 obtain ⟨E1,e1,e2,e3⟩ := app_new ok hE hcells (rest := #[]) (cap := len) (by omega) (by simp only [maxLen]; have := ok.pos kk; have := Nat.le_mul_of_pos_right len this; omega) (by simp [g2]) (w1 := w.alloc (.cells cc (S.ty kk))) (by
  have he : cc.toList.toArray ++ #[] = cc := by simp
  rw [he]; rfl) rfl rfl rfl
 have hown : VR S E1 (w.alloc (.cells cc (S.ty kk))) (.own kk H.length 0 ys.length (cpOf ys)) (.slice (some ⟨w.heap.size,0,none⟩) ys.length len) := by
  have hcp : cpOf ys = .whole ∨ cpOf ys = .full := by cases ys <;> simp [cpOf]
  rcases hcp with hcp | hcp
  · rw [hcp]; exact e3
  · rw [hcp]; exact e3.to_full (fun A n cap h => by cases h; exact hyl'.symm)
 rw [hyl'] at hown hG;refine wp_value (w' := w.alloc (.cells cc (S.ty kk))) (v := .slice (some ⟨w.heap.size,0,none⟩) len len) ?_ (hn _ _ _ _ _ hG e1 e2 (show VR S E1 _ _ _ from hown));have hbig : ¬ (16777216 < len * S.size kk) := by omega
 by_cases h0 : len * S.size kk = 0
 · simp only [h0,if_true] at g1;simp [execOp,ho,Instr.buildSlice,run_underlying ht,sizeOf,typeInfo,hi,hsz,h0,newRow];simp at g1;rw [g1];simp
 · simp only [h0,if_false] at g1;simp [execOp,ho,Instr.buildSlice,run_underlying ht,sizeOf,typeInfo,zeroValue,hi,hsz,hz,h0,hbig,newRow];simp at g1;rw [g1];simp
end
end Sh
end Go.Proofs.YtomdfaelgcefdaaGreatDoor
namespace Go.Proofs.YtomdfaelgcefdaaGreatDoor
open Go
namespace Sh
variable {K : Type} {El : K → Type} {S : Seat K El}
section
variable (ok : Ok S) {E : Env} {H : Heap K El} {w : World} {a : Act} {fr : Nat → AV K El}
variable {o : Oper} {k : AV K El → Heap K El → Prop} {next : Act → World → Prop} {Q : Exit → Act → World → Prop}
theorem VRv.one_of {u : AV K El} {v : Value} (h : VRv S E w u v) (hp : u.plain = true) : VR S E w u v := by rwa [VRv_plain hp] at h
theorem sizeA_some {P : Program} {t : TypeId} {n : Nat} {ag : Bool} (h : sizeA P t = some (n,ag)) (w : World) : (sizeOf t).run P w = .ok n w ∧ (isAgg t).run P w = .ok ag w ∧ (ag = false → n = 1) := by
 unfold sizeA at h;split at h
 · rename_i i fs hi hu;simp at h; obtain ⟨rfl,rfl⟩ := h;exact ⟨by simp [sizeOf,typeInfo,hi],by simp [isAgg,run_underlying hu],by simp⟩
 · rename_i i m e hi hu;simp at h; obtain ⟨rfl,rfl⟩ := h;exact ⟨by simp [sizeOf,typeInfo,hi],by simp [isAgg,run_underlying hu],by simp⟩
 · rename_i i d h1 h2 hi hu;split at h
   · rename_i hs;simp at h; obtain ⟨rfl,rfl⟩ := h;refine ⟨by simp [sizeOf,typeInfo,hi,hs],?_,fun _ => rfl⟩
     cases d with
     | struct fs => exact (h1 fs rfl).elim
     | array m e => exact (h2 m e rfl).elim
     | _ => simp [isAgg,run_underlying hu]
   · cases h
 · cases h
include ok in
theorem op_load {t : TypeId} {A : Operand} (ho : o.op = .load t A) (hE : Emb S E H w) {n : Nat} {ag : Bool} (hs : sizeA S.P t = some (n,ag)) {x : AV K El} (hx : VRv S E w x (a.eval A))
    (hG : rd S H x n fun us => k (if ag then .agg us else us.headD .junk) H) (hn : Cont S E w a o next k) : o.wp S.P a w next Q := by
 obtain ⟨s1,s2,s3⟩ := sizeA_some hs w
 have hp : x.plain = true := by cases x <;> first | rfl | exact hG.elim
 obtain ⟨us,b,oo,cs,hk,hv,hul,hcl,hus,hcs⟩ := rd_sound ok hE hG (hx.one_of hp);have hl := run_loadCells_list (P := S.P) w ⟨b,oo,none⟩ cs (fun j v hj => by rw [add_lit]; exact hcs j v hj);rw [hcl] at hl
 cases ag with
 | true =>
  refine wp_value (w' := w) (v := .agg cs.toArray) ?_ (hn _ _ _ _ _ hk hE Ext.refl ⟨cs.toArray,rfl,by simp [hul,hcl],fun j u hu => by simpa using hus j u hu⟩);simp [execOp,ho,Instr.loadAt,hv,Instr.sureAddr,loadVar,s1,s2,hl]
 | false =>
  have h1 := s3 rfl;subst h1
  match us,hul,cs,hcl with
  | [u],_,[c],_ =>
   obtain ⟨c',k1,k2,k3⟩ := hus 0 u rfl;simp at k1;subst k1;have hc := hcs 0 c rfl;rw [Nat.add_zero] at hc;refine wp_value (w' := w) (v := c) ?_ (hn _ _ _ _ _ hk hE Ext.refl (VR2.to (k3.one_of k2)));simp [execOp,ho,Instr.loadAt,hv,Instr.sureAddr,loadVar,s2,hc]
include ok in
theorem op_store {t : TypeId} {A X : Operand} (ho : o.op = .store t A X) (hE : Emb S E H w) {n : Nat} {ag : Bool} (hs : sizeA S.P t = some (n,ag)) {p x : AV K El} (hp : VRv S E w p (a.eval A)) (hx : VRv S E w x (a.eval X))
    (hl : x.cells.length = n) (hone : x.cells.all AV.one = true) (hG : wr S H p x.cells fun H' => k .junk H') (hn : Cont S E w a o next k) : o.wp S.P a w next Q := by
 obtain ⟨s1,s2,s3⟩ := sizeA_some hs w
 have hpl : p.plain = true := by cases p <;> first | rfl | exact hG.elim
 have hc := (hx.two hone).cells hone;obtain ⟨H',b,oo,w',hk,hv,hrun,hE',hx'⟩ := wr_sound ok hE hG (hp.one_of hpl) (cs := (a.eval X).cells.toList) (by simpa using hc.1) (fun j u hu => by simpa using hc.2 j u hu);have hsz : (a.eval X).cells.size = n := by rw [hc.1,hl]
 have hr : (execOp a.eval o).run S.P w = .ok .skip w' := by
  simp [execOp,ho,Instr.storeAt,hv,Instr.sureAddr,storeVar,s1,hsz,hrun]
 unfold Oper.wp;rw [hr];exact hn _ _ _ _ _ hk hE' hx' (VR.junk _)
theorem op_nilck {X : Operand} (ho : o.op = .nilCheck X) (hE : Emb S E H w) {x : AV K El} (hx : VRv S E w x (a.eval X)) (hal : alive H x = true)
    (hG : nilG x fun v => k v H) (hn : Cont S E w a o next k) : o.wp S.P a w next Q := by
 have hgo : (execOp a.eval o).run S.P w = .ok (.value (a.eval X)) w ∧ k x H := by
  cases x <;> first | exact hG.elim | skip
  case ptr i off =>
   refine ⟨?_,hG⟩;have hv : VR S E w (.ptr i off) (a.eval X) := hx;generalize hq : a.eval X = v at hv
   cases hv with
   | ptr h => simp [execOp,ho,hq]
   | ptrGone h _ => exact absurd h (alive_loc hE hal i (.inl ⟨_,rfl⟩))
  case eptr kk i e off =>
   refine ⟨?_,hG⟩;have hv : VR S E w (.eptr kk i e off) (a.eval X) := hx;generalize hq : a.eval X = v at hv
   cases hv with
   | eptr h => simp [execOp,ho,hq]
   | eptrGone h _ => exact absurd h (alive_loc hE hal i (.inr (.inl ⟨_,_,_,rfl⟩)))
  case iptr kk xs e off =>
   refine ⟨?_,hG⟩;have hv : VR S E w (.iptr kk xs e off) (a.eval X) := hx;generalize hq : a.eval X = v at hv
   cases hv with
   | iptr b o' cs _ _ _ => simp [execOp,ho,hq]
  case fn f =>
   refine ⟨?_,hG⟩;have hv : VR S E w (.fn f) (a.eval X) := hx;generalize hq : a.eval X = v at hv
   cases hv with
   | fn f => simp [execOp,ho,hq]
  case clo f is =>
   refine ⟨?_,hG⟩;have hv : VR S E w (.clo f is) (a.eval X) := hx;generalize hq : a.eval X = v at hv
   cases hv with
   | clo hl hn hp => simp [execOp,ho,hq]
   | cloGone hi h _ => exact absurd h (alive_loc hE hal _ (.inr (.inr (.inr (.inr ⟨_,_,rfl,hi⟩)))))
 exact wp_value hgo.1 (hn _ _ _ _ _ hgo.2 hE Ext.refl hx)
theorem VR.bool_inv {b : Bool} {v : Value} (h : VR S E w (.bool b) v) : v = .bool b := by cases h; rfl
theorem VR.int_inv {kk : IntKind} {n : Int} {v : Value} (h : VR S E w (.int kk n) v) : v = .int kk n := by cases h; rfl
theorem VR.str_inv {s : ByteArray} {v : Value} (h : VR S E w (.str s) v) : v = .string s := by cases h; rfl
theorem eqK_bool {op : BinOp} {b : Bool} {kk : AV K El → Prop} (h : eqK op (some b) kk) : (op = .eql ∧ kk (.bool b)) ∨ (op = .neq ∧ kk (.bool (!b))) := by
 unfold eqK at h;split at h
 · rename_i b' hb; cases hb; exact .inl ⟨rfl,h⟩
 · rename_i b' hb; cases hb; exact .inr ⟨rfl,h⟩
 · exact h.elim
theorem run_guard_plain {P : Program} {w : World} {op : BinOp} {t : TypeId} {X Y : Operand} {x y : Value} (hx : (∀ cs,x ≠ .agg cs) ∧ x ≠ .nilIface) : (eqGuard op t X Y x y).run P w = .ok () w := by
 unfold eqGuard;cases op <;> simp
 all_goals
  cases x <;> first
   | (simp; done)
   | exact absurd rfl (hx.1 _)
   | exact absurd rfl hx.2
theorem run_eq {P : Program} {w : World} {op : BinOp} {t : TypeId} {x y : Value} {b : Bool} (hop : op = .eql ∨ op = .neq) (hb : (Op.equal t x y).run P w = .ok b w)
    (hx : (∀ k n,x ≠ .int k n) ∧ (∀ k n,x ≠ .float k n) ∧ (∀ k n m,x ≠ .complex k n m) ∧ (∀ s,x ≠ .string s)) :
    (binOp op t x y).run P w = .ok (.bool (if op = .eql then b else !b)) w := by
 have e1 : ∀ y,binOp .eql t x y = (do pure (.bool (← Op.equal t x y))) := by
  intro y
  cases x <;> first
   | exact absurd rfl (hx.1 _ _)
   | exact absurd rfl (hx.2.1 _ _)
   | exact absurd rfl (hx.2.2.1 _ _ _)
   | exact absurd rfl (hx.2.2.2 _)
   | (cases y <;> rfl)
 have e2 : ∀ y,binOp .neq t x y = (do pure (.bool (!(← Op.equal t x y)))) := by
  intro y
  cases x <;> first
   | exact absurd rfl (hx.1 _ _)
   | exact absurd rfl (hx.2.1 _ _)
   | exact absurd rfl (hx.2.2.1 _ _ _)
   | exact absurd rfl (hx.2.2.2 _)
   | (cases y <;> rfl)
 rcases hop with rfl | rfl
 · rw [e1]; simp [hb]
 · rw [e2]; simp [hb]
theorem tcA_num {P : Program} {t : TypeId} (h : tcA P t = some .boo) : P.underlying t = some .bool := by
 unfold tcA at h
 split at h <;> first | assumption | (cases h; done) | skip
 all_goals
  split at h
  · split at h <;> cases h
  · cases h
theorem tcA_ptr {P : Program} {t : TypeId} (h : tcA P t = some .ptr) : ∃ e,P.underlying t = some (.pointer e) := by
 unfold tcA at h
 split at h <;> first | (exact ⟨_,by assumption⟩) | (cases h; done) | skip
 all_goals
  split at h
  · split at h <;> cases h
  · cases h
theorem tcA_agg {P : Program} {t : TypeId} {ks : List CK} (h : tcA P t = some (.agg ks)) : (∀ w : World,(isAgg t).run P w = .ok true w) ∧ plainT P 20 t = some ks ∧ (P.info? t).map (·.size) = some ks.length ∧ P.eqGuardType P.depth t = false := by
 unfold tcA at h
 split at h <;> first | (cases h; done) | skip
 · rename_i fs hfs;split at h
   · rename_i ks' i hk hi;split at h
     · rename_i hc;simp at h; subst h;exact ⟨fun w => by simp [isAgg,run_underlying hfs],hk,by rw [hi]; simp [hc.1],hc.2⟩
     · cases h
   · cases h
 · rename_i n e hfs;split at h
   · rename_i ks' i hk hi;split at h
     · rename_i hc;simp at h; subst h;exact ⟨fun w => by simp [isAgg,run_underlying hfs],hk,by rw [hi]; simp [hc.1],hc.2⟩
     · cases h
   · cases h
theorem run_eqp0 {P : Program} (w : World) (d : Nat) (t : TypeId) {e : TypeId} (he : P.underlying t = some (.pointer e)) : (Op.equalIn (d + 1) t (.pointer none) (.pointer none)).run P w = .ok true w := by
 simp [Op.equalIn,run_underlying he]
theorem run_eqp1 {P : Program} (w : World) (d : Nat) (t : TypeId) {e : TypeId} (A : Addr) (he : P.underlying t = some (.pointer e)) : (Op.equalIn (d + 1) t (.pointer none) (.pointer (some A))).run P w = .ok false w := by
 simp [Op.equalIn,run_underlying he]
theorem run_eqp2 {P : Program} (w : World) (d : Nat) (t : TypeId) {e : TypeId} (A : Addr) (he : P.underlying t = some (.pointer e)) : (Op.equalIn (d + 1) t (.pointer (some A)) (.pointer none)).run P w = .ok false w := by
 simp [Op.equalIn,run_underlying he]
theorem tcA_fn {P : Program} {t : TypeId} (h : tcA P t = some .fn) : ∃ a b c,P.underlying t = some (.func a b c) := by
 unfold tcA at h
 split at h <;> first | (exact ⟨_,_,_,by assumption⟩) | (cases h; done) | skip
 all_goals
  split at h
  · split at h <;> cases h
  · cases h
theorem run_eqf0 {P : Program} (w : World) (d : Nat) (t : TypeId) {p q r} (he : P.underlying t = some (.func p q r)) : (Op.equalIn (d + 1) t .nilFunc .nilFunc).run P w = .ok true w := by
 simp [Op.equalIn,run_underlying he]
theorem run_eqf1 {P : Program} (w : World) (d : Nat) (t : TypeId) {p q r} (f : Fn) (x y : Array Value) (he : P.underlying t = some (.func p q r)) : (Op.equalIn (d + 1) t .nilFunc (.func f x y)).run P w = .ok false w := by
 simp [Op.equalIn,run_underlying he]
theorem run_eqf2 {P : Program} (w : World) (d : Nat) (t : TypeId) {p q r} (f : Fn) (x y : Array Value) (he : P.underlying t = some (.func p q r)) : (Op.equalIn (d + 1) t (.func f x y) .nilFunc).run P w = .ok false w := by
 simp [Op.equalIn,run_underlying he]
theorem run_int {P : Program} {t : TypeId} {op : BinOp} {kx ky : IntKind} {m n : Int} {kk : AV K El → Prop} (h : bin op .num (.int kx m) (.int ky n) kk) :
    ∃ r v,kk r ∧ (binOp op t (.int kx m) (.int ky n)).run P w = .ok v w ∧ VR S E w r v ∧ r.plain = true := by
 cases op
 case shl =>
  obtain ⟨h0,h⟩ := h;refine ⟨_,_,h,?_,.int _ _,rfl⟩;have hn : ¬ (n < 0) := by omega
  simp only [binOp,Op.shift,if_neg hn,Sem.run_pure]
 case shr =>
  obtain ⟨h0,h⟩ := h;refine ⟨_,_,h,?_,.int _ _,rfl⟩;have hn : ¬ (n < 0) := by omega
  simp only [binOp,Op.shift,if_neg hn,Sem.run_pure]
 all_goals
  obtain ⟨rfl,h⟩ := h;simp only [binI] at h
 case add => exact ⟨_,_,h,by simp only [binOp,ne_eq,not_true_eq_false,if_false,Op.intArith,Sem.run_pure],.int _ _,rfl⟩
 case sub => exact ⟨_,_,h,by simp only [binOp,ne_eq,not_true_eq_false,if_false,Op.intArith,Sem.run_pure],.int _ _,rfl⟩
 case mul => exact ⟨_,_,h,by simp only [binOp,ne_eq,not_true_eq_false,if_false,Op.intArith,Sem.run_pure],.int _ _,rfl⟩
 case quo => exact ⟨_,_,h.2,by simp only [binOp,ne_eq,not_true_eq_false,if_false,Op.intDiv,if_neg h.1,Sem.run_pure],.int _ _,rfl⟩
 case rem => exact ⟨_,_,h.2,by simp only [binOp,ne_eq,not_true_eq_false,if_false,Op.intDiv,if_neg h.1,Sem.run_pure],.int _ _,rfl⟩
 case and => exact ⟨_,_,h,by simp only [binOp,ne_eq,not_true_eq_false,if_false,Op.intBits,Sem.run_pure],.int _ _,rfl⟩
 case or => exact ⟨_,_,h,by simp only [binOp,ne_eq,not_true_eq_false,if_false,Op.intBits,Sem.run_pure],.int _ _,rfl⟩
 case xor => exact ⟨_,_,h,by simp only [binOp,ne_eq,not_true_eq_false,if_false,Op.intBits,Sem.run_pure],.int _ _,rfl⟩
 case eql => exact ⟨_,_,h,by simp only [binOp,ne_eq,not_true_eq_false,if_false,Op.intCmp,Sem.run_pure],.bool _,rfl⟩
 case neq => exact ⟨_,_,h,by simp only [binOp,ne_eq,not_true_eq_false,if_false,Op.intCmp,Sem.run_pure],.bool _,rfl⟩
 case lss => exact ⟨_,_,h,by simp only [binOp,ne_eq,not_true_eq_false,if_false,Op.intCmp,Sem.run_pure],.bool _,rfl⟩
 case leq => exact ⟨_,_,h,by simp only [binOp,ne_eq,not_true_eq_false,if_false,Op.intCmp,Sem.run_pure],.bool _,rfl⟩
 case gtr => exact ⟨_,_,h,by simp only [binOp,ne_eq,not_true_eq_false,if_false,Op.intCmp,Sem.run_pure],.bool _,rfl⟩
 case geq => exact ⟨_,_,h,by simp only [binOp,ne_eq,not_true_eq_false,if_false,Op.intCmp,Sem.run_pure],.bool _,rfl⟩
 all_goals exact h.elim
theorem op_bin {op : BinOp} {t yt : TypeId} {X Y : Operand} (ho : o.op = .binOp op t X Y yt) (hE : Emb S E H w) {c : TC} (hc : tcA S.P t = some c) {x y : AV K El} (hx : VRv S E w x (a.eval X)) (hy : VRv S E w y (a.eval Y))
    (hax : alive H x = true) (hay : alive H y = true) (hG : bin op c x y fun v => k v H) (hn : Cont S E w a o next k) : o.wp S.P a w next Q := by
 have fin : ∀ {r : AV K El} {v : Value},(do eqGuard op t X Y (a.eval X) (a.eval Y); binOp op t (a.eval X) (a.eval Y) : Sem Value).run S.P w = .ok v w → k r H → VR S E w r v → r.plain = true → o.wp S.P a w next Q := by
  intro r v hr hk hv hp;refine wp_value (w' := w) (v := v) ?_ (hn r H E w v hk hE Ext.refl (by rw [VRv_plain hp]; exact hv));simp only [execOp,ho,Sem.run_bind,Sem.run_pure];simp only [Sem.run_bind] at hr;rw [hr];rfl
 cases c with
 | num =>
  cases x <;> first | exact hG.elim | skip
  case int kx m =>
   cases y <;> first | exact hG.elim | skip
   case int ky n =>
    have ex := VR.int_inv (show VR S E w _ _ from hx);have ey := VR.int_inv (show VR S E w _ _ from hy);rw [ex,ey] at fin;have hg : (eqGuard op t X Y (.int kx m) (.int ky n)).run S.P w = .ok () w := run_guard_plain ⟨by simp,by simp⟩;obtain ⟨r,v,hk,hr,hv,hp⟩ := run_int (P := S.P) (S := S) (E := E) (w := w) (t := t) hG;exact fin (r := r) (v := v) (by simp only [Sem.run_bind,hg,Result.andThen_ok]; exact hr) hk hv hp
  case str sx =>
   cases y <;> first | exact hG.elim | skip
   case str sy =>
    have ex := VR.str_inv (show VR S E w _ _ from hx);have ey := VR.str_inv (show VR S E w _ _ from hy);rw [ex,ey] at fin;have hg : (eqGuard op t X Y (.string sx) (.string sy)).run S.P w = .ok () w := run_guard_plain ⟨by simp,by simp⟩
    by_cases hadd : op = .add
    · subst hadd;simp only [bin] at hG;have hlt : ¬ (IntKind.i64.max < ((sx.size + sy.size : Nat) : Int)) := by omega
      exact fin (r := .str _) (by simp only [Sem.run_bind,hg,Result.andThen_ok,binOp,Op.stringOp]; rw [if_neg (by simpa using hlt)]; rfl) hG.2 (.str _) rfl
    · have hG' : eqK op (some (sx.toList == sy.toList)) fun v => k v H := by
       cases op <;> first | exact hG | exact absurd rfl hadd
      rcases eqK_bool hG' with ⟨rfl,hG⟩ | ⟨rfl,hG⟩
      · exact fin (r := .bool _) (by simp only [Sem.run_bind,hg,Result.andThen_ok,binOp,Op.stringOp,Sem.run_pure]) hG (.bool _) rfl
      · exact fin (r := .bool _) (by simp only [Sem.run_bind,hg,Result.andThen_ok,binOp,Op.stringOp,Sem.run_pure]) hG (.bool _) rfl
 | boo =>
  cases x <;> first | exact hG.elim | skip
  case bool bx =>
   cases y <;> first | exact hG.elim | skip
   case bool bY =>
    have ex := VR.bool_inv (show VR S E w _ _ from hx);have ey := VR.bool_inv (show VR S E w _ _ from hy);rw [ex,ey] at fin;have hg : (eqGuard op t X Y (.bool bx) (.bool bY)).run S.P w = .ok () w := run_guard_plain ⟨by simp,by simp⟩;have hq : (Op.equal t (.bool bx) (.bool bY)).run S.P w = .ok (bx == bY) w := run_equalIn_bool' w 9999 t bx bY (tcA_num hc);have hG' : eqK op (some (bx == bY)) fun v => k v H := hG
    rcases eqK_bool hG' with ⟨rfl,hG⟩ | ⟨rfl,hG⟩
    · exact fin (r := .bool _) (by simp only [Sem.run_bind,hg,Result.andThen_ok]; rw [run_eq (.inl rfl) hq ⟨by simp,by simp,by simp,by simp⟩]; rfl) hG (.bool _) rfl
    · exact fin (r := .bool _) (by simp only [Sem.run_bind,hg,Result.andThen_ok]; rw [run_eq (.inr rfl) hq ⟨by simp,by simp,by simp,by simp⟩]; rfl) hG (.bool _) rfl
 | ptr =>
  obtain ⟨e,he⟩ := tcA_ptr hc
  have key : ∃ b,eqP x y = some b ∧ (Op.equal t (a.eval X) (a.eval Y)).run S.P w = .ok b w ∧ (∃ A,a.eval X = .pointer A) := by
   cases hq : eqP x y with
   | none => simp only [bin,hq,eqK] at hG
   | some b =>
    refine ⟨b,rfl,?_⟩;unfold eqP at hq
    split at hq <;> first | (cases hq; done) | skip
    all_goals
     simp at hq;subst hq;have hx' := VRv.one_of hx rfl;have hy' := VRv.one_of hy rfl;generalize a.eval X = xv at hx';generalize a.eval Y = yv at hy'
     cases hx' <;> cases hy' <;> first
      | exact ⟨run_eqp0 w 9999 t he,_,rfl⟩
      | exact ⟨run_eqp1 w 9999 t _ he,_,rfl⟩
      | exact ⟨run_eqp2 w 9999 t _ he,_,rfl⟩
      | (rename_i hgo _; exact absurd hgo (alive_loc hE hay _ (.inl ⟨_,rfl⟩)))
      | (rename_i hgo _; exact absurd hgo (alive_loc hE hax _ (.inl ⟨_,rfl⟩)))
      | (rename_i hgo _; exact absurd hgo (alive_loc hE hay _ (.inr (.inl ⟨_,_,_,rfl⟩))))
      | (rename_i hgo _; exact absurd hgo (alive_loc hE hax _ (.inr (.inl ⟨_,_,_,rfl⟩))))
  obtain ⟨b,hb,hq,A,hA⟩ := key;rw [hA] at hq fin;have hg : (eqGuard op t X Y (.pointer A) (a.eval Y)).run S.P w = .ok () w := run_guard_plain ⟨by simp,by simp⟩;simp only [bin,hb] at hG
  have hG' : eqK op (some b) fun v => k v H := by
   cases x <;> first | exact hG | (cases y <;> exact hG)
  rcases eqK_bool hG' with ⟨rfl,hG⟩ | ⟨rfl,hG⟩
  · exact fin (r := .bool _) (by simp only [Sem.run_bind,hg,Result.andThen_ok]; rw [run_eq (.inl rfl) hq ⟨by simp,by simp,by simp,by simp⟩]; rfl) hG (.bool _) rfl
  · exact fin (r := .bool _) (by simp only [Sem.run_bind,hg,Result.andThen_ok]; rw [run_eq (.inr rfl) hq ⟨by simp,by simp,by simp,by simp⟩]; rfl) hG (.bool _) rfl
 | fn =>
  obtain ⟨p0,q0,r0,he⟩ := tcA_fn hc
  have key : ∃ b,eqF x y = some b ∧ (Op.equal t (a.eval X) (a.eval Y)).run S.P w = .ok b w ∧ (a.eval X = .nilFunc ∨ ∃ f x y,a.eval X = .func f x y) := by
   cases hq : eqF x y with
   | none => simp only [bin,hq,eqK] at hG
   | some b =>
    refine ⟨b,rfl,?_⟩;unfold eqF at hq
    split at hq <;> first | (cases hq; done) | skip
    all_goals
     simp at hq;subst hq;have hx' := VRv.one_of hx rfl;have hy' := VRv.one_of hy rfl;generalize a.eval X = xv at hx';generalize a.eval Y = yv at hy'
     cases hx' <;> cases hy' <;> first
      | exact ⟨run_eqf0 w 9999 t he,.inl rfl⟩
      | exact ⟨run_eqf1 w 9999 t _ _ _ he,.inl rfl⟩
      | exact ⟨run_eqf2 w 9999 t _ _ _ he,.inr ⟨_,_,_,rfl⟩⟩
      | (rename_i hgo hi _; exact absurd hgo (alive_loc hE hay _ (.inr (.inr (.inr (.inr ⟨_,_,rfl,hi⟩))))))
      | (rename_i hgo hi _; exact absurd hgo (alive_loc hE hax _ (.inr (.inr (.inr (.inr ⟨_,_,rfl,hi⟩))))))
  obtain ⟨b,hb,hq,hA⟩ := key
  have hg : (eqGuard op t X Y (a.eval X) (a.eval Y)).run S.P w = .ok () w := by
   rcases hA with hA | ⟨f,x,y,hA⟩ <;> rw [hA] <;> exact run_guard_plain ⟨by simp,by simp⟩
  have hpl : (∀ k n,a.eval X ≠ .int k n) ∧ (∀ k n,a.eval X ≠ .float k n) ∧ (∀ k n m,a.eval X ≠ .complex k n m) ∧ (∀ s,a.eval X ≠ .string s) := by
   rcases hA with hA | ⟨f,x,y,hA⟩ <;> rw [hA] <;> exact ⟨by simp,by simp,by simp,by simp⟩
  simp only [bin,hb] at hG
  have hG' : eqK op (some b) fun v => k v H := by
   cases x <;> first | exact hG | (cases y <;> exact hG)
  rcases eqK_bool hG' with ⟨rfl,hG⟩ | ⟨rfl,hG⟩
  · exact fin (r := .bool _) (by simp only [Sem.run_bind,hg,Result.andThen_ok]; rw [run_eq (.inl rfl) hq hpl]; rfl) hG (.bool _) rfl
  · exact fin (r := .bool _) (by simp only [Sem.run_bind,hg,Result.andThen_ok]; rw [run_eq (.inr rfl) hq hpl]; rfl) hG (.bool _) rfl
 | agg ks =>
  cases x <;> first | exact hG.elim | skip
  case agg us =>
   cases y <;> first | exact hG.elim | skip
   case agg vs =>
    obtain ⟨hku,hkv,hG⟩ := hG;obtain ⟨hag0,hpt,hsz,hgt⟩ := tcA_agg hc;obtain ⟨xs,ex,hxl,hxc⟩ := hx;obtain ⟨ys,ey,hyl,hyc⟩ := hy
    have hkl : ∀ (ks : List CK) (us : List (AV K El)),kds ks us = true → us.length = ks.length := by
     intro ks
     induction ks with
     | nil => intro us h; cases us <;> simp [kds] at h ⊢
     | cons c ks ih => intro us h; cases us <;> simp [kds] at h ⊢; exact ih _ h.2
    have hul := hkl _ _ hku;have hvl := hkl _ _ hkv;have hG0 := hG
    cases hq : eqs us vs with
    | none => rw [hq] at hG; simp [eqK] at hG
    | some b =>
     rw [hq] at hG;obtain ⟨x',y',p1,p2,p3⟩ := eqT_sound (P := S.P) (S := S) (E := E) (w := w) 20 t ks hpt hsz 10000 (by omega) us vs xs ys 0 b ⟨hxl,hxc⟩ ⟨hyl,hyc⟩ (by omega) (by omega) (by simpa [← hul] using hku) (by rw [List.drop_zero,List.drop_zero,List.take_of_length_le (by omega),List.take_of_length_le (by omega)]; exact hq);have hag : (isAgg t).run S.P w = .ok true w := hag0 w
     have hso : (sizeOf t).run S.P w = .ok ks.length w := by
      cases hi : S.P.info? t with
      | none => rw [hi] at hsz; simp at hsz
      | some i => rw [hi] at hsz; simp at hsz; simp [sizeOf,typeInfo,hi,hsz]
     have ex' : x' = .agg xs := by
      simp only [part,Sem.run_bind,hag,hso,Result.andThen_ok,if_true,Sem.run_pure,Nat.zero_add] at p1
      injection p1 with p1
      rw [← p1,← hul,← hxl,Array.extract_size]
     have ey' : y' = .agg ys := by
      simp only [part,Sem.run_bind,hag,hso,Result.andThen_ok,if_true,Sem.run_pure,Nat.zero_add] at p2
      injection p2 with p2
      rw [← p2,← hvl,← hyl,Array.extract_size]
     subst ex'; subst ey';rw [ex,ey] at fin;have hg : (eqGuard op t X Y (.agg xs) (.agg ys)).run S.P w = .ok () w := run_eqGuard_agg w op t X Y xs ys hgt;have hqq : (Op.equal t (.agg xs) (.agg ys)).run S.P w = .ok b w := p3
     rcases eqK_bool hG with ⟨rfl,hG⟩ | ⟨rfl,hG⟩
     · exact fin (r := .bool _) (by simp only [Sem.run_bind,hg,Result.andThen_ok]; rw [run_eq (.inl rfl) hqq ⟨by simp,by simp,by simp,by simp⟩]; rfl) hG (.bool _) rfl
     · exact fin (r := .bool _) (by simp only [Sem.run_bind,hg,Result.andThen_ok]; rw [run_eq (.inr rfl) hqq ⟨by simp,by simp,by simp,by simp⟩]; rfl) hG (.bool _) rfl
end
end Sh
end Go.Proofs.YtomdfaelgcefdaaGreatDoor
