/- The shadow machine, part 11: operations of the program as shadow operations, and that these are sound. -/
import Derived.Test.YtomdfaelgcefdaaGreatDoorSh10
namespace Go.Proofs.YtomdfaelgcefdaaGreatDoor
open Go
namespace Sh
variable {K : Type} {El : K → Type}

def cOpd : Operand → Option (Opd K El)
  | .tmp t => some (.tmp t)
  | .const v => (constV v).map .const
  | .func f => some (.const (.fn f))
  | .global _ => none

def cAll : List Operand → Option (List (Opd K El))
  | [] => some []
  | x :: xs => match cOpd x, cAll xs with
    | some u, some us => some (u :: us)
    | _, _ => none

def sizeA (P : Program) (t : TypeId) : Option (Nat × Bool) := match P.info? t, P.underlying t with
  | some i, some (.struct _) => some (i.size, true)
  | some i, some (.array _ _) => some (i.size, true)
  | some i, some _ => if i.size = 1 then some (1, false) else none
  | _, _ => none

def zeroA (P : Program) (t : TypeId) : Option (List (AV K El)) := match P.info? t with
  | some i => match i.zero with
    | some z => z.cells.toList.mapM constAV
    | none => none
  | none => none

def rowK (S : Seat K El) (t : TypeId) : Option K := match S.P.underlying t with
  | some (.slice e) => S.kd e
  | _ => none

def placesA (P : Program) (t : TypeId) : Option (List (Nat × Nat)) := match P.underlying t with
  | some (.struct fs) => fs.toList.mapM fun f => (P.info? f.type).map fun i => (f.offset, i.size)
  | _ => none

def fieldA (P : Program) (t : TypeId) (f : Nat) : Option (Nat × TypeId) := match P.underlying t with
  | some (.struct fs) => match fs[f]? with
    | some fd => some (fd.offset, fd.type)
    | none => none
  | _ => none

def tcA (P : Program) (t : TypeId) : Option TC := match P.underlying t with
  | some (.int _) | some .string => some .num
  | some .bool => some .boo
  | some (.pointer _) => some .ptr
  | some (.func _ _ _) => some .fn
  | some (.struct _) => match plainT P 20 t, P.info? t with
    | some ks, some i => if i.size = ks.length ∧ P.eqGuardType P.depth t = false then some (.agg ks) else none
    | _, _ => none
  | some (.array _ _) => match plainT P 20 t, P.info? t with
    | some ks, some i => if i.size = ks.length ∧ P.eqGuardType P.depth t = false then some (.agg ks) else none
    | _, _ => none
  | _ => none

/-- Keys whose equality is plain. -/
def keyA (P : Program) (t : TypeId) : Option CK := match P.underlying t with
  | some (.int _) => some .i
  | some .string => some .s
  | some .bool => some .b
  | _ => none

def mapA (P : Program) (t : TypeId) : Option CK := match P.underlying t with
  | some (.map key _) => keyA P key
  | _ => none

/-- A zero value of one cell. -/
def zero1 (P : Program) (t : TypeId) : Option (AV K El) := match P.info? t with
  | some i => match i.zero with
    | some z => constAV z
    | none => none
  | none => none

def compileOp (S : Seat K El) (o : Oper) : Option (Prim K El × List (Opd K El)) := match o.op with
  | .move x | .assign x => (cAll [x]).map fun xs => (.mov, xs)
  | .pick c a b => (cAll [c, a, b]).map fun xs => (.pick, xs)
  | .alloc t => (zeroA S.P t).map fun z => (.alloc z, [])
  | .box _ x => (cAll [x]).map fun xs => (.box, xs)
  | .build t parts => match placesA S.P t, zeroA S.P t, cAll (parts.toList.map (·.2)) with
    | some places, some z, some xs => ((parts.toList.map (·.1)).mapM fun i => places[i]?).map fun ps => (.build z ps, xs)
    | _, _, _ => none
  | .buildSlice t len parts => match rowK S t, cAll (parts.toList.map (·.2)) with
    | some k, some xs => if parts.toList.map (·.1) = List.range' 0 len ∧ len * S.size k ≤ 16777216 then some (.mkrow k, xs) else none
    | _, _ => none
  | .load t a => match sizeA S.P t with
    | some (n, ag) => (cAll [a]).map fun xs => (.load n ag, xs)
    | none => none
  | .store t a x => match sizeA S.P t with
    | some (n, _) => (cAll [a, x]).map fun xs => (.store n, xs)
    | none => none
  | .nilCheck x => (cAll [x]).map fun xs => (.nilck, xs)
  | .binOp op t x y _ => match tcA S.P t with
    | some c => (cAll [x, y]).map fun xs => (.bin op c, xs)
    | none => none
  | .unOp op _ x => (cAll [x]).map fun xs => (.un op, xs)
  | .convert s d x => match S.P.underlying s, S.P.underlying d with
    | some (.int _), some (.int k) => (cAll [x]).map fun xs => (.conv k, xs)
    | some (.slice e), some .string => match rowK S s, S.P.underlying e with
      | some k, some (.int .u8) => (cAll [x]).map fun xs => (.b2s k, xs)
      | _, _ => none
    | _, _ => none
  | .range t x => match S.P.underlying t with
    | some .string => (cAll [x]).map fun xs => (.rangeS, xs)
    | some (.map _ _) => (cAll [x]).map fun xs => (.rangeM, xs)
    | _ => none
  | .next it true => (cAll [it]).map fun xs => (.nextS, xs)
  | .next it false => (cAll [it]).map fun xs => (.nextM, xs)
  | .slice t x lo hi mx => match rowK S t with
    | some k => if mx.isSome = true → hi.isSome = true then (cAll (x :: (lo.toList ++ hi.toList ++ mx.toList))).map fun xs => (.slice k lo.isSome hi.isSome mx.isSome, xs) else none
    | none => match S.P.underlying t, mx with
      | some .string, none => (cAll (x :: (lo.toList ++ hi.toList))).map fun xs => (.sslice lo.isSome hi.isSome, xs)
      | _, _ => none
  | .fieldAddr s x f => match fieldA S.P s f with
    | some (off, t) => match S.P.info? t with
      | some i => if i.size = 0 then none else (cAll [x]).map fun xs => (.faddr off, xs)
      | none => none
    | none => none
  | .field s x f => match fieldA S.P s f with
    | some (off, t) => match sizeA S.P t with
      | some (n, ag) => (cAll [x]).map fun xs => (.field off n ag, xs)
      | none => none
    | none => none
  | .indexAddr t x i => match rowK S t with
    | some k => (cAll [x, i]).map fun xs => (.iaddr k, xs)
    | none => none
  | .index t x i => match S.P.underlying t with
    | some .string => (cAll [x, i]).map fun xs => (.sindex, xs)
    | some (.array len e) => match sizeA S.P e with
      | some (n, ag) => (cAll [x, i]).map fun xs => (.aindex len n ag, xs)
      | none => none
    | _ => none
  | .extract x j => (cAll [x]).map fun xs => (.extract j, xs)
  | .call c => match c.callee with
    | .value (.func f) => if callable S.P f then (cAll c.args.toList).map fun xs => (.call f, xs) else none
    | .value (.tmp t) => (cAll c.args.toList).map fun xs => (.callv, .tmp t :: xs)
    | .builtin .append => match c.argTypes.toList, c.args.toList with
      | [t, t'], [s, x] => match rowK S t with
        | some k => if t = t' then (cAll [s, x]).map fun xs => (.append k, xs) else none
        | none => none
      | _, _ => none
    | .builtin .len => match c.argTypes.toList, c.args.toList with
      | [t], [x] => match S.P.underlying t with
        | some (.slice _) => (cAll [x]).map fun xs => (.len false, xs)
        | some .string => (cAll [x]).map fun xs => (.len true, xs)
        | _ => none
      | _, _ => none
    | .builtin .copy => match c.argTypes.toList, c.args.toList with
      | [t, _], [d, s] => match rowK S t with
        | some k => (cAll [d, s]).map fun xs => (.copy k, xs)
        | none => none
      | _, _ => none
    | _ => none
  | .makeSlice t l c => match rowK S t with
    | some k => (cAll [l, c]).map fun xs => (.mkslice k, xs)
    | none => none
  | .makeFunc (.func f) first captured => if callable S.P f = true ∧ first = #[] then (cAll captured.toList).map fun xs => (.mkfn f, xs) else none
  | .makeMap _ none => some (.mkmap, [])
  | .makeMap t (some (.const (.int _ _))) => match S.P.underlying t with
    | some (.map _ _) => some (.mkmap, [])
    | _ => none
  | .lookup t x i ck => match S.P.underlying t with
    | some (.map key e) => match keyA S.P key, zero1 S.P e with
      | some c, some z => (cAll [x, i]).map fun xs => (.mlook c z ck, xs)
      | _, _ => none
    | _ => none
  | .mapUpdate t m key v => match mapA S.P t with
    | some c => (cAll [m, key, v]).map fun xs => (.mput c, xs)
    | none => none
  | .insert t m key v => match mapA S.P t with
    | some c => (cAll [m, key, v]).map fun xs => (.mput c, xs)
    | none => none
  | _ => none

def opdV (fr : Nat → AV K El) : Opd K El → AV K El
  | .tmp t => fr t
  | .const v => v

variable {S : Seat K El}

/-- A frame against the model's. -/
def FrR (S : Seat K El) (E : Env) (w : World) (fr : Nat → AV K El) (a : Act) : Prop := ∀ t, VRv S E w (fr t) (a.tmps.getD t undef)

theorem VR2.to {E : Env} {w : World} {u : AV K El} {v : Value} (h : VR2 S E w u v) : VRv S E w u v := by
  cases u
  case tup us => cases (show VR S E w (.tup us) v from h)
  all_goals exact h

section
variable (ok : Ok S) {E : Env} {H : Heap K El} {w : World} {a : Act} {fr : Nat → AV K El}

theorem cOpd_sound {X : Operand} {x : Opd K El} (h : cOpd X = some x) (hf : FrR S E w fr a) : VRv S E w (opdV fr x) (a.eval X) := by
  cases X with
  | tmp t => simp [cOpd] at h; subst h; exact hf t
  | const v =>
    simp only [cOpd] at h
    cases hc : (constV v : Option (AV K El)) with
    | none => rw [hc] at h; simp at h
    | some u => rw [hc] at h; simp at h; subst h; exact (constV_VR hc E w).to
  | func f => simp [cOpd] at h; subst h; exact VR.fn f
  | global g => simp [cOpd] at h

theorem cAll_sound : ∀ {l : List Operand} {xs : List (Opd K El)}, cAll l = some xs → FrR S E w fr a → xs.length = l.length ∧ ∀ (j : Nat) X x, l[j]? = some X → xs[j]? = some x → VRv S E w (opdV fr x) (a.eval X)
  | [], xs, h, _ => by simp [cAll] at h; subst h; exact ⟨rfl, fun j X x h => by simp at h⟩
  | X :: l, xs, h, hf => by
    simp only [cAll] at h
    split at h
    · rename_i u us hu hus
      simp at h
      subst h
      obtain ⟨h1, h2⟩ := cAll_sound hus hf
      refine ⟨by simp [h1], fun j Y y hY hy => ?_⟩
      cases j with
      | zero => simp at hY hy; subst hY; subst hy; exact cOpd_sound hu hf
      | succ j => exact h2 j Y y (by simpa using hY) (by simpa using hy)
    · cases h

theorem cAll1 {x : Operand} {xs : List (Opd K El)} (h : cAll [x] = some xs) (hf : FrR S E w fr a) : ∃ u, xs = [u] ∧ VRv S E w (opdV fr u) (a.eval x) := by
  obtain ⟨h1, h2⟩ := cAll_sound h hf
  match xs, h1 with
  | [u], _ => exact ⟨u, rfl, h2 0 x u rfl rfl⟩

theorem cAll2 {x y : Operand} {xs : List (Opd K El)} (h : cAll [x, y] = some xs) (hf : FrR S E w fr a) : ∃ u v, xs = [u, v] ∧ VRv S E w (opdV fr u) (a.eval x) ∧ VRv S E w (opdV fr v) (a.eval y) := by
  obtain ⟨h1, h2⟩ := cAll_sound h hf
  match xs, h1 with
  | [u, v], _ => exact ⟨u, v, rfl, h2 0 x u rfl rfl, h2 1 y v rfl rfl⟩

theorem cAll3 {x y z : Operand} {xs : List (Opd K El)} (h : cAll [x, y, z] = some xs) (hf : FrR S E w fr a) : ∃ u v t, xs = [u, v, t] ∧ VRv S E w (opdV fr u) (a.eval x) ∧ VRv S E w (opdV fr v) (a.eval y) ∧ VRv S E w (opdV fr t) (a.eval z) := by
  obtain ⟨h1, h2⟩ := cAll_sound h hf
  match xs, h1 with
  | [u, v, t], _ => exact ⟨u, v, t, rfl, h2 0 x u rfl rfl, h2 1 y v rfl rfl, h2 2 z t rfl rfl⟩

/-- Where an operation comes to a value. -/
theorem wp_value {P : Program} {o : Oper} {w' : World} {v : Value} {next : Act → World → Prop} {Q : Exit → Act → World → Prop} (hr : (execOp a.eval o).run P w = .ok (.value v) w') (h : next (a.put o.dst v) w') : o.wp P a w next Q := by
  unfold Oper.wp; rw [hr]; exact h

/-- What is known behind an operation. -/
def Cont (S : Seat K El) (E : Env) (w : World) (a : Act) (o : Oper) (next : Act → World → Prop) (k : AV K El → Heap K El → Prop) : Prop :=
  ∀ r H' E' w' v, k r H' → Emb S E' H' w' → Ext E w E' w' → VRv S E' w' r v → next (a.put o.dst v) w'

variable {o : Oper} {k : AV K El → Heap K El → Prop} {next : Act → World → Prop} {Q : Exit → Act → World → Prop}

theorem op_mov {X : Operand} (ho : o.op = .move X ∨ o.op = .assign X) (hE : Emb S E H w) {x : AV K El} (hx : VRv S E w x (a.eval X)) (hG : k x H) (hn : Cont S E w a o next k) : o.wp S.P a w next Q := by
  refine wp_value (w' := w) (v := a.eval X) ?_ (hn x H E w _ hG hE Ext.refl hx)
  rcases ho with ho | ho <;> simp [execOp, ho]

theorem op_pick {C A B : Operand} (ho : o.op = .pick C A B) (hE : Emb S E H w) {c : Bool} {x y : AV K El} (hc : VRv S E w (.bool c) (a.eval C)) (hx : VRv S E w x (a.eval A)) (hy : VRv S E w y (a.eval B)) (hG : k (cond c x y) H) (hn : Cont S E w a o next k) : o.wp S.P a w next Q := by
  have hcv : a.eval C = .bool c := by
    have : VR S E w (.bool c) (a.eval C) := hc
    generalize a.eval C = v at this
    cases this; rfl
  refine wp_value (w' := w) (v := if c then a.eval A else a.eval B) ?_ (hn _ H E w _ hG hE Ext.refl ?_)
  · simp [execOp, ho, hcv, asBool]
  · cases c <;> simpa

include ok in
theorem emb_cells (hE : Emb S E H w) {us : List (AV K El)} {cs : Array Value} (hc : CellsR S E w us cs) (t : TypeId) :
    Emb S ⟨E.ρ ++ [.blk w.heap.size], E.F⟩ (H ++ [.cells us]) (w.alloc (.cells cs t)) ∧ Ext E w ⟨E.ρ ++ [.blk w.heap.size], E.F⟩ (w.alloc (.cells cs t)) ∧
      VRv S ⟨E.ρ ++ [.blk w.heap.size], E.F⟩ (w.alloc (.cells cs t)) (.ptr H.length 0) (.pointer (some ⟨w.heap.size, 0, none⟩)) := by
  have hx : Ext E w ⟨E.ρ ++ [.blk w.heap.size], E.F⟩ (w.alloc (.cells cs t)) := ext_push (w1 := w.alloc (.cells cs t)) (o := .cells cs t) rfl rfl rfl rfl
  refine ⟨emb_push (w1 := w.alloc (.cells cs t)) ok hE (c := cs) (e := t) (o := .cells us) rfl rfl rfl rfl ?_, hx, VR.ptr (by simp only []; rw [← hE.len]; simp)⟩
  exact ⟨cs, t, heap_alloc_new w _, hc.1, fun j u hu => let ⟨c, k1, k2, k3⟩ := hc.2 j u hu; ⟨c, k1, k2, VR.mono ok hx k3⟩⟩

theorem const_cells {l : Array Value} {us : List (AV K El)} (h : l.toList.mapM constAV = some us) : CellsR S E w us l := by
  obtain ⟨h1, h2⟩ := mapM_const h
  refine ⟨by simpa using h1.symm, fun j u hu => ?_⟩
  have hj : j < l.size := by have := (List.getElem?_eq_some_iff.1 hu).1; simp at h1; omega
  have hcv := h2 j l[j] u (by simp [hj]) hu
  obtain ⟨k1, k2⟩ := constAV_VR (S := S) hcv E w
  exact ⟨l[j], by simp [hj], k2, k1⟩

theorem zeroA_some {P : Program} {t : TypeId} {z : List (AV K El)} (h : zeroA P t = some z) : ∃ i zv, P.info? t = some i ∧ i.zero = some zv ∧ zv.cells.toList.mapM constAV = some z := by
  unfold zeroA at h
  split at h
  · rename_i i hi
    split at h
    · rename_i zv hzv; exact ⟨i, zv, hi, hzv, h⟩
    · cases h
  · cases h

include ok in
theorem op_alloc {t : TypeId} (ho : o.op = .alloc t) (hE : Emb S E H w) {z : List (AV K El)} (hz : zeroA S.P t = some z) (hG : k (.ptr H.length 0) (H ++ [.cells z])) (hn : Cont S E w a o next k) : o.wp S.P a w next Q := by
  obtain ⟨i, zv, hi, hzv, hm⟩ := zeroA_some hz
  obtain ⟨h1, h2, h3⟩ := emb_cells ok hE (const_cells hm) t
  refine wp_value ?_ (hn _ _ _ _ _ hG h1 h2 h3)
  simp [execOp, ho, Instr.alloc, zeroValue, typeInfo, hi, hzv, newVar, newRow]

include ok in
theorem op_box {t : TypeId} {X : Operand} (ho : o.op = .box t X) (hE : Emb S E H w) {x : AV K El} (hx : VRv S E w x (a.eval X)) (hone : x.cells.all AV.one = true) (hG : k (.ptr H.length 0) (H ++ [.cells x.cells])) (hn : Cont S E w a o next k) : o.wp S.P a w next Q := by
  have hx2 : VR2 S E w x (a.eval X) := by
    cases x
    case tup us => simp [AV.cells, AV.one] at hone
    all_goals exact hx
  obtain ⟨h1, h2, h3⟩ := emb_cells ok hE (hx2.cells hone) t
  refine wp_value ?_ (hn _ _ _ _ _ hG h1 h2 h3)
  simp [execOp, ho, Instr.box, newVar, newRow]

/-- Parts that are laid are scalars or structs. -/
theorem lay_one : ∀ {ps : List (Nat × Nat)} {us z z' : List (AV K El)}, lay z ps us = some z' → ∀ (j : Nat) u, us[j]? = some u → u.cells.all AV.one = true
  | [], [], z, z', _, j, u, hu => by simp at hu
  | [], _ :: _, z, z', h, j, u, _ => by simp [lay] at h
  | _ :: _, [], z, z', h, j, u, _ => by simp [lay] at h
  | (off, n) :: ps, v :: vs, z, z', h, j, u, hu => by
    simp only [lay] at h
    split at h
    · rename_i hc
      cases j with
      | zero => simp at hu; subst hu; exact hc.2.2
      | succ j => exact lay_one h j u (by simpa using hu)
    · cases h

theorem VRv.two {u : AV K El} {v : Value} (h : VRv S E w u v) (hone : u.cells.all AV.one = true) : VR2 S E w u v := by
  cases u
  case tup us => simp [AV.cells, AV.one] at hone
  all_goals exact h

theorem op_build {t : TypeId} {parts : Array (Nat × Operand)} (ho : o.op = .build t parts) (hE : Emb S E H w) (hf : FrR S E w fr a) {places : List (Nat × Nat)} (hp : placesA S.P t = some places) {z : List (AV K El)} (hz : zeroA S.P t = some z)
    {xs : List (Opd K El)} (hxs : cAll (parts.toList.map (·.2)) = some xs) {ps : List (Nat × Nat)} (hps : (parts.toList.map (·.1)).mapM (fun i => places[i]?) = some ps) {cs : List (AV K El)} (hl : lay z ps (xs.map (opdV fr)) = some cs)
    (hG : k (.agg cs) H) (hn : Cont S E w a o next k) : o.wp S.P a w next Q := by
  obtain ⟨i, zv, hi, hzv, hm⟩ := zeroA_some hz
  obtain ⟨hxl, hxv⟩ := cAll_sound hxs hf
  have hmap : ∀ (l : List Nat) (ps : List (Nat × Nat)), l.mapM (fun i => places[i]?) = some ps → l.length = ps.length ∧ ∀ (j : Nat) i p, l[j]? = some i → ps[j]? = some p → places[i]? = some p := by
    intro l
    induction l with
    | nil => intro ps h; simp at h; subst h; exact ⟨rfl, fun j i p h => by simp at h⟩
    | cons a l ih =>
      intro ps h
      simp only [List.mapM_cons, Option.bind_eq_bind, Option.pure_def] at h
      cases ha : places[a]? with
      | none => simp [ha] at h
      | some q =>
        cases hr : l.mapM (fun i => places[i]?) with
        | none => simp [ha, hr] at h
        | some qs =>
          simp [ha, hr] at h
          subst h
          obtain ⟨h1, h2⟩ := ih qs hr
          refine ⟨by simp [h1], fun j i p hj hp => ?_⟩
          cases j with
          | zero => simp at hj hp; subst hj; subst hp; exact ha
          | succ j => exact h2 j i p (by simpa using hj) (by simpa using hp)
  obtain ⟨hpl, hpp⟩ := hmap _ _ hps
  obtain ⟨cc, h1, h2⟩ := lay_fill (S := S) (E := E) (w := w) (fun i => places.toArray[i]?) ps (parts.toList.map (·.1)) (xs.map (opdV fr)) (parts.toList.map fun p => a.eval p.2) z cs zv.cells hl hpl (by simp [hxl])
    (fun j i p hj hp => by simpa using hpp j i p hj hp) (fun j u v hu hv => by
      have hone := lay_one hl j u hu
      rw [List.getElem?_map] at hu hv
      cases hq : xs[j]? with
      | none => rw [hq] at hu; simp at hu
      | some x =>
        cases hq' : parts.toList[j]? with
        | none => rw [hq'] at hv; simp at hv
        | some p =>
          rw [hq] at hu; rw [hq'] at hv
          simp at hu hv
          subst hu; subst hv
          exact (hxv j p.2 x (by rw [List.getElem?_map, hq']; rfl) hq).two hone) (const_cells hm)
  have hzip : (parts.toList.map (·.1)).zip (parts.toList.map fun p => a.eval p.2) = (parts.map fun (i, x) => (i, a.eval x)).toList := by
    rw [Array.toList_map]
    generalize parts.toList = l
    induction l with
    | nil => rfl
    | cons p l ih => simp [ih]
  rw [hzip] at h1
  have hb : S.P.built t (parts.map fun (i, x) => (i, a.eval x)).toList = some cc := by
    unfold placesA at hp
    split at hp
    · rename_i fs hfs
      simp only [Program.built, hi, hfs, hzv, hp]
      exact h1
    · cases hp
  refine wp_value (w' := w) (v := .agg cc) ?_ (hn _ _ _ _ _ hG hE Ext.refl ⟨cc, rfl, h2.1, h2.2⟩)
  have := run_build w t (parts.map fun (i, x) => (i, a.eval x)) cc hb
  simp [execOp, ho, this]

theorem rowK_some {t : TypeId} {kk : K} (hk : rowK S t = some kk) (ok : Ok S) : S.P.underlying t = some (.slice (S.ty kk)) := by
  unfold rowK at hk
  split at hk
  · rename_i e he; rw [he, ok.kd e kk hk]
  · cases hk

theorem unc_one (ok : Ok S) {kk : K} {us : List (AV K El)} {x : El kk} (h : S.unc kk us = some x) : us.all AV.one = true := by
  have := ok.unc_enc kk us x h
  subst this
  exact List.all_eq_true.2 fun u hu => ok.one kk x u hu

theorem VR.to_full {kk : K} {i lo len : Nat} {c : Cp} {v : Value} (h : VR S E w (.own kk i lo len c) v) (hc : ∀ A n cap, v = .slice A n cap → cap = n) : VR S E w (.own kk i lo len .full) v := by
  cases h with
  | own h1 h2 h3 h4 h5 h6 => exact .own h1 (fun _ => hc _ _ _ rfl) (fun h => by cases h) h4 h5 h6
  | ownNil h1 => exact .ownNil h1
  | ownGone h1 h2 => exact .ownGone h1 h2

include ok in
theorem op_mkrow {t : TypeId} {len : Nat} {parts : Array (Nat × Operand)} (ho : o.op = .buildSlice t len parts) (hE : Emb S E H w) (hf : FrR S E w fr a) {kk : K} (hk : rowK S t = some kk)
    {xs : List (Opd K El)} (hxs : cAll (parts.toList.map (·.2)) = some xs) (hidx : parts.toList.map (·.1) = List.range' 0 len) (hcap : len * S.size kk ≤ 16777216)
    {ys : List (El kk)} (hr : rowOf S kk (xs.map (opdV fr)) = some ys) (hG : k (.own kk H.length 0 ys.length (cpOf ys)) (H ++ [.row kk ys])) (hn : Cont S E w a o next k) : o.wp S.P a w next Q := by
  have ht := rowK_some hk ok
  obtain ⟨i, z, hi, hsz, hz, hzs, hby, hzz⟩ := ok.info kk
  obtain ⟨hxl, hxv⟩ := cAll_sound hxs hf
  obtain ⟨hyl, hyv⟩ := rowOf_get hr
  have hpl : parts.toList.length = len := by have := congrArg List.length hidx; simpa using this
  have hyl' : ys.length = len := by rw [hyl]; simp [hxl]; simpa using hpl
  have hvals : ∀ v ∈ parts.toList.map (fun p => a.eval p.2), v.cells.size = S.size kk := by
    intro v hv
    obtain ⟨j, hj⟩ := List.mem_iff_getElem?.1 hv
    have hjl : j < parts.toList.length := by have := (List.getElem?_eq_some_iff.1 hj).1; simpa using this
    have hxj : j < xs.length := by rw [hxl]; simpa using hjl
    have hyj : j < ys.length := by omega
    have hu := hyv j (opdV fr xs[j]) ys[j] (by simp [hxj]) (List.getElem?_eq_getElem hyj)
    have hone := unc_one ok hu
    rw [List.getElem?_map, List.getElem?_eq_getElem hjl] at hj
    simp only [Option.map_some, Option.some.injEq] at hj
    subst hj
    have := ((hxv j parts.toList[j].2 xs[j] (by rw [List.getElem?_map, List.getElem?_eq_getElem hjl]; rfl) (List.getElem?_eq_getElem hxj)).two hone).cells hone
    rw [this.1, ← ok.unc_enc kk _ _ hu, ok.enc_len]
  have hinit : ∃ c0 : Array Value, c0.size = len * S.size kk ∧ (do
      let zero ← (if len * S.size kk = 0 then pure #[] else do pure (← zeroValue (S.ty kk)).cells : Sem (Array Value))
      pure ((Array.range (len * S.size kk)).map (zero[· % zero.size]!)) : Sem (Array Value)).run S.P w = .ok c0 w := by
    by_cases h0 : len * S.size kk = 0
    · refine ⟨#[], by simp [h0], by simp [h0]⟩
    · refine ⟨(Array.range (len * S.size kk)).map (z.cells[· % z.cells.size]!), by simp, by simp [h0, zeroValue, typeInfo, hi, hz]⟩
  obtain ⟨cc, g1, g2, _, g4⟩ := fill_row (S.size kk) (parts.toList.map fun p => a.eval p.2) 0 ((Array.range (len * S.size kk)).map ((if len * S.size kk = 0 then #[] else z.cells)[· % (if len * S.size kk = 0 then #[] else z.cells).size]!)) (by simp; simpa using (Nat.le_of_eq (congrArg (· * S.size kk) hpl))) hvals
  have hzip : (List.range' 0 (parts.toList.map fun p => a.eval p.2).length).zip (parts.toList.map fun p => a.eval p.2) = (parts.map fun (i, x) => (i, a.eval x)).toList := by
    rw [Array.toList_map, List.length_map, hpl, ← hidx]
    generalize parts.toList = l
    induction l with
    | nil => rfl
    | cons p l ih => simp [ih]
  rw [hzip] at g1
  have hcells : CellsOf S E w kk ys cc.toList := by
    refine ⟨by simp [g2, hyl'], fun j y hy t' u hu => ?_⟩
    have hyj := (List.getElem?_eq_some_iff.1 hy).1
    have hjl : j < parts.toList.length := by omega
    have hxj : j < xs.length := by rw [hxl]; simpa using hjl
    have huu := hyv j (opdV fr xs[j]) y (by simp [hxj]) hy
    have hone := unc_one ok huu
    have hc := ((hxv j parts.toList[j].2 xs[j] (by rw [List.getElem?_map, List.getElem?_eq_getElem hjl]; rfl) (List.getElem?_eq_getElem hxj)).two hone).cells hone
    rw [ok.unc_enc kk _ _ huu] at hu
    obtain ⟨c, k1, _, k3⟩ := hc.2 t' u hu
    have htl : t' < S.size kk := by
      have := (List.getElem?_eq_some_iff.1 hu).1
      rw [← ok.unc_enc kk _ _ huu, ok.enc_len] at this
      exact this
    have := g4 j t' (a.eval parts.toList[j].2) (by rw [List.getElem?_map, List.getElem?_eq_getElem hjl]; rfl) htl
    rw [Nat.zero_add] at this
    exact ⟨c, by simpa using this.trans k1, k3⟩
  obtain ⟨E1, e1, e2, e3⟩ := app_new ok hE hcells (rest := #[]) (cap := len) (by omega) (by simp only [maxLen]; have := ok.pos kk; have := Nat.le_mul_of_pos_right len this; omega) (by simp [g2]) (w1 := w.alloc (.cells cc (S.ty kk))) (by
    have he : cc.toList.toArray ++ #[] = cc := by simp
    rw [he]; rfl) rfl rfl rfl
  have hown : VR S E1 (w.alloc (.cells cc (S.ty kk))) (.own kk H.length 0 ys.length (cpOf ys)) (.slice (some ⟨w.heap.size, 0, none⟩) ys.length len) := by
    have hcp : cpOf ys = .whole ∨ cpOf ys = .full := by cases ys <;> simp [cpOf]
    rcases hcp with hcp | hcp
    · rw [hcp]; exact e3
    · rw [hcp]; exact e3.to_full (fun A n cap h => by cases h; exact hyl'.symm)
  rw [hyl'] at hown hG
  refine wp_value (w' := w.alloc (.cells cc (S.ty kk))) (v := .slice (some ⟨w.heap.size, 0, none⟩) len len) ?_ (hn _ _ _ _ _ hG e1 e2 (show VR S E1 _ _ _ from hown))
  have hbig : ¬ (16777216 < len * S.size kk) := by omega
  by_cases h0 : len * S.size kk = 0
  · simp only [h0, if_true] at g1
    simp [execOp, ho, Instr.buildSlice, run_underlying ht, sizeOf, typeInfo, hi, hsz, h0, newRow]
    simp at g1
    rw [g1]
    simp
  · simp only [h0, if_false] at g1
    simp [execOp, ho, Instr.buildSlice, run_underlying ht, sizeOf, typeInfo, zeroValue, hi, hsz, hz, h0, hbig, newRow]
    simp at g1
    rw [g1]
    simp

end
end Sh
end Go.Proofs.YtomdfaelgcefdaaGreatDoor
