/- The shadow machine, part 20: what code asks for, in a form made for evaluation. -/
import Derived.Test.YtomdfaelgcefdaaGreatDoorSh19
namespace Go.Proofs.YtomdfaelgcefdaaGreatDoor
open Go
namespace Sh
variable {K : Type} {El : K → Type}

abbrev Fr (K : Type) (El : K → Type) := List (Nat × AV K El)

def look : Fr K El → Nat → AV K El
  | [], _ => .junk
  | x :: l, t => match Nat.beq t x.1 with
    | true => x.2
    | false => look l t

def opdE (fr : Fr K El) : Opd K El → AV K El
  | .tmp t => look fr t
  | .const v => v

def opdsE (fr : Fr K El) : List (Opd K El) → List (AV K El)
  | [] => []
  | o :: l => opdE fr o :: opdsE fr l

def updE (fr : Fr K El) (d : Option Nat) (v : AV K El) : Fr K El := match d with
  | some d => (d, v) :: fr
  | none => fr

/-- A condition to compute, or to prove. -/
def andB (b : Bool) (p : Prop) : Prop := match b with
  | true => p
  | false => False

def leB (a b : Nat) : Bool := Nat.ble a b

def nthE (H : Heap K El) (i : Nat) : Option (AO K El) := match H, i with
  | [], _ => none
  | o :: _, 0 => some o
  | _ :: l, i + 1 => nthE l i

def rdE (S : Seat K El) (H : Heap K El) (a : AV K El) (n : Nat) (k : List (AV K El) → Prop) : Prop := match a with
  | .ptr i off => match H[i]? with
    | some (.cells vs) => andB (leB (off + n) vs.length) (k ((vs.drop off).take n))
    | _ => False
  | a => rd S H a n k

def wrE (S : Seat K El) (H : Heap K El) (a : AV K El) (us : List (AV K El)) (k : Heap K El → Prop) : Prop := match a with
  | .ptr i off => match H[i]? with
    | some (.cells vs) => andB (leB (off + us.length) vs.length) (k (H.set i (.cells (splice vs off us))))
    | _ => False
  | a => wr S H a us k

def looks (fr : Fr K El) : List Nat → List (AV K El)
  | [] => []
  | t :: r => look fr t :: looks fr r

def bytesEq : List UInt8 → List UInt8 → Bool
  | [], [] => true
  | a :: l, b :: m => match Nat.beq a.toNat b.toNat with
    | true => bytesEq l m
    | false => false
  | _, _ => false

theorem bytesEq_iff : ∀ {l m : List UInt8}, bytesEq l m = (l == m)
  | [], [] => rfl
  | [], _ :: _ => rfl
  | _ :: _, [] => rfl
  | a :: l, b :: m => by
    have ih := bytesEq_iff (l := l) (m := m)
    simp only [bytesEq, List.cons_beq_cons]
    cases h : Nat.beq a.toNat b.toNat with
    | true =>
      have : a = b := UInt8.toNat_inj.1 (Nat.eq_of_beq_eq_true h)
      subst this
      simp [ih]
    | false =>
      have : (a == b) = false := by
        have hne := Nat.ne_of_beq_eq_false h
        simp only [beq_eq_false_iff_ne]
        exact fun e => hne (by rw [e])
      simp [this]

def strEq (a b : ByteArray) : Bool := bytesEq a.data.toList b.data.toList

theorem strEq_iff {a b : ByteArray} : strEq a b = (a.toList == b.toList) := by
  rw [strEq, bytesEq_iff, ByteArray.toList_eq, ByteArray.toList_eq]

def binE (op : BinOp) (c : TC) (x y : AV K El) (kk : AV K El → Prop) : Prop := match c, x, y with
  | .num, .int k m, .int k' n => match op with
    | .shl | .shr => shI op k m n kk
    | op => andB (decide (k = k')) (binI op k m n kk)
  | .num, .str a, .str b => match op with
    | .add => bin .add .num (.str a) (.str b) kk
    | op => eqK op (some (strEq a b)) kk
  | .agg ks, .agg l, .agg m => andB (kds ks l) (andB (kds ks m) (eqK op (eqs l m) kk))
  | c, x, y => bin op c x y kk

/-- A call, as a goal that evaluation leaves alone. -/
structure CallP (S : Seat K El) (f : Nat) (vs : List (AV K El)) (H : Heap K El) (k : AV K El → Heap K El → Prop) : Prop where
  get : callG S f vs H k

/-- A look-up in a map, as a goal that evaluation leaves alone. -/
structure LookP (key : AV K El) (es : List (AV K El × AV K El)) (kn : Prop) (ks : AV K El → Prop) : Prop where
  get : match mfind key es 0 with
    | some none => kn
    | some (some (_, v)) => ks v
    | none => False

theorem look_none {key : AV K El} {es : List (AV K El × AV K El)} {kn : Prop} {ks : AV K El → Prop} (h : mfind key es 0 = some none) (hk : kn) : LookP key es kn ks := ⟨by rw [h]; exact hk⟩
theorem look_some {key : AV K El} {es : List (AV K El × AV K El)} {kn : Prop} {ks : AV K El → Prop} {j : Nat} {v : AV K El} (h : mfind key es 0 = some (some (j, v))) (hk : ks v) : LookP key es kn ks := ⟨by rw [h]; exact hk⟩

/-- An entry put into a map, as a goal that evaluation leaves alone. -/
structure PutP (key v : AV K El) (es : List (AV K El × AV K El)) (kp : List (AV K El × AV K El) → Prop) : Prop where
  get : match mfind key es 0 with
    | some none => kp (es ++ [(key, v)])
    | some (some (j, _)) => kp (es.set j (key, v))
    | none => False

theorem put_none {key v : AV K El} {es : List (AV K El × AV K El)} {kp : List (AV K El × AV K El) → Prop} (h : mfind key es 0 = some none) (hk : kp (es ++ [(key, v)])) : PutP key v es kp := ⟨by rw [h]; exact hk⟩
theorem put_some {key v : AV K El} {es : List (AV K El × AV K El)} {kp : List (AV K El × AV K El) → Prop} {j : Nat} {u : AV K El} (h : mfind key es 0 = some (some (j, u))) (hk : kp (es.set j (key, v))) : PutP key v es kp := ⟨by rw [h]; exact hk⟩

/-- A nil slice, in a slot or in a cell, to be seen as an owned one. -/
inductive GStep (K : Type) where
  | slot (t : Nat) (k : K)
  | cell (i j : Nat) (k : K)

def ghE : List (GStep K) → Fr K El → Heap K El → Option (Fr K El × Heap K El)
  | [], fr, H => some (fr, H)
  | .slot t k :: gs, fr, H => match look fr t with
    | .nils => ghE gs ((t, .own k H.length 0 0 .whole) :: fr) (H ++ [.row k []])
    | _ => none
  | .cell i j k :: gs, fr, H => match H[i]? with
    | some (.cells vs) => match vs[j]? with
      | some .nils => ghE gs fr (H.set i (.cells (vs.set j (.own k H.length 0 0 .whole))) ++ [.row k []])
      | _ => none
    | _ => none

def entryE : Nat → List (AV K El) → Fr K El
  | _, [] => []
  | n, v :: vs => (n, v) :: entryE (n + 1) vs

/-- An end. -/
structure EndP (n0 : Nat) (fr : Fr K El) (H : Heap K El) (vs : List (AV K El)) (R : AV K El → Heap K El → Prop) : Prop where
  get : ∃ gs fr' H', ghE gs (entryE 0 vs) H = some (fr', H') ∧ ∃ ids lent, OkRelo n0 ⟨ofL fr, H'⟩ ids lent [] ∧ okV H' ids lent (oneOr (tabF vs.length (ofL fr'))) ∧ (tabF vs.length (ofL fr')).all AV.ntup = true ∧
    R (loc H' ids lent (oneOr (tabF vs.length (ofL fr')))) (locH H' ids lent)

/-- A loop: an invariant of the kept slots' values and the heap, a measure; it holds at the start; a round keeps it. -/
structure LoopP (S : Seat K El) (n0 : Nat) (ks : List Nat) (fr : Fr K El) (H : Heap K El) (Body : List (AV K El) → Heap K El → (Fr K El → Heap K El → Prop) → Prop) : Prop where
  get : (∃ (Inv : List (AV K El) → Heap K El → Prop) (μ : List (AV K El) → Heap K El → Nat), ks.Nodup ∧
      (∃ gs fr' H', ghE gs fr H = some (fr', H') ∧ ∃ ids lent, OkRelo n0 ⟨ofL fr', H'⟩ ids lent ks ∧ Inv ((looks fr' ks).map (loc H' ids lent)) (locH H' ids lent)) ∧
      ∀ vs H1, vs.length = ks.length → Inv vs H1 → Body vs H1 fun fr2 H2 => ∃ ids lent, OkRelo n0 ⟨ofL fr2, H2⟩ ids lent ks ∧ Inv ((looks fr2 ks).map (loc H2 ids lent)) (locH H2 ids lent) ∧ μ ((looks fr2 ks).map (loc H2 ids lent)) (locH H2 ids lent) < μ vs H1) ∨
    (∃ (Inv : List (AV K El) → Heap K El → Prop) (μ : List (AV K El) → Heap K El → Nat), ks.Nodup ∧
      (∃ gs fr' H', ghE gs fr H = some (fr', H') ∧ ∃ ids lent, OkRelo n0 ⟨ofL fr', H'⟩ ids lent ks ∧ ∃ H3, HGh S (locH H' ids lent) H3 ∧ Inv ((looks fr' ks).map (loc H' ids lent)) H3) ∧
      ∀ vs H1, vs.length = ks.length → Inv vs H1 → Body vs H1 fun fr2 H2 => ∃ ids lent, OkRelo n0 ⟨ofL fr2, H2⟩ ids lent ks ∧ ∃ H3, HGh S (locH H2 ids lent) H3 ∧ Inv ((looks fr2 ks).map (loc H2 ids lent)) H3 ∧ μ ((looks fr2 ks).map (loc H2 ids lent)) H3 < μ vs H1)

def GE (S : Seat K El) (p : Prim K El) (vs : List (AV K El)) (H : Heap K El) (k : AV K El → Heap K El → Prop) : Prop :=
  match p, vs with
  | .box, [v] => andB (v.cells.all AV.one) (k (.ptr H.length 0) (H ++ [.cells v.cells]))
  | .load n ag, [a] => rdE S H a n fun us => k (cond ag (.agg us) (us.headD .junk)) H
  | .store n, [a, v] => andB (Nat.beq v.cells.length n) (andB (v.cells.all AV.one) (wrE S H a v.cells fun H' => k .junk H'))
  | .nilck, [x] => andB (alive H x) (nilG x fun v => k v H)
  | .bin op c, [x, y] => andB (alive H x) (andB (alive H y) (binE op c x y fun v => k v H))
  | .slice kk lo hi mx, x :: vs => andB (alive H x) (slc kk lo hi mx x vs fun v => k v H)
  | .faddr off, [x] => andB (alive H x) (faddrG off x fun v => k v H)
  | .field off n ag, [.agg cs] => andB (leB (off + n) cs.length) (k (cond ag (.agg ((cs.drop off).take n)) ((cs.drop off).headD .junk)) H)
  | .iaddr kk, [x, .int _ n] => andB (alive H x) (iaddrG kk x n fun v => k v H)
  | .call f, vs => CallP S f vs H k
  | .callv, .fn f :: vs => andB (callable S.P f) (CallP S f vs H k)
  | .callv, .clo f is :: vs => andB (alive H (.clo f is)) (andB (callable S.P f) (CallP S f (vs ++ is.map capV) H k))
  | .mkfn f, vs => match capsOf vs with
    | some is => andB (vs.all (alive H)) (k (cloOf f is) H)
    | none => False
  | .aindex len sz ag, [.agg cs, .int _ n] => 0 ≤ n ∧ n < len ∧ n.toNat * sz + sz ≤ cs.length ∧ k (cond ag (.agg ((cs.drop (n.toNat * sz)).take sz)) ((cs.drop (n.toNat * sz)).headD .junk)) H
  | .mlook c z ck, [.mp i, key] => match H[i]? with
    | some (.map es) => andB (kd1 c key) (LookP key es (k (cond ck (.tup [z, .bool false]) z) H) fun v => k (cond ck (.tup [v, .bool true]) v) H)
    | _ => False
  | .mput c, [.mp i, key, v] => match H[i]? with
    | some (.map es) => andB (kd1 c key) (andB v.data (PutP key v es fun es' => k .junk (H.set i (.map es'))))
    | _ => False
  | .len str, [x] => andB (alive H x) (lenI str x fun n => k (.int .i64 n) H)
  | p, vs => G S p vs H k

/-! What is computed is computed once. -/
def lits : List Nat := [0, 1, 2, 3, 4, 5, 6, 7, 8, 9, 10, 11, 12, 13, 14, 15, 16, 17, 18, 19, 20, 21, 22, 23, 24, 25, 26, 27, 28, 29, 30, 31, 32, 33, 34, 35, 36, 37, 38, 39, 40, 41, 42, 43, 44, 45, 46, 47, 48, 49, 50, 51, 52, 53, 54, 55, 56, 57, 58, 59, 60, 61, 62, 63]

def fN (n : Nat) (c : Nat → Prop) : Prop := go lits
  where
  go : List Nat → Prop
    | [] => c n
    | j :: l => match Nat.beq n j with
      | true => c j
      | false => go l

def fC (x : Cp) (c : Cp → Prop) : Prop := match x with
  | .full => c .full
  | .whole => c .whole
  | .unk => c .unk

def fI (l : List (Option Nat)) (c : List (Option Nat) → Prop) : Prop := match l with
  | [] => c []
  | none :: r => fI r fun r => c (none :: r)
  | some i :: r => fN i fun i => fI r fun r => c (some i :: r)

def f1 (v : AV K El) (c : AV K El → Prop) : Prop := match v with
  | .ptr i off => fN i fun i => fN off fun off => c (.ptr i off)
  | .eptr k i e off => fN i fun i => fN off fun off => c (.eptr k i e off)
  | .own k i lo len cp => fN i fun i => fC cp fun cp => c (.own k i lo len cp)
  | .junk => c .junk
  | .cell => c .cell
  | .bool b => c (.bool b)
  | .int k n => c (.int k n)
  | .str s => c (.str s)
  | .nilp => c .nilp
  | .iptr k xs e off => fN off fun off => c (.iptr k xs e off)
  | .nils => c .nils
  | .imm k xs => c (.imm k xs)
  | .agg cs => c (.agg cs)
  | .tup vs => c (.tup vs)
  | .fn f => c (.fn f)
  | .clo f is => fI is fun is => c (.clo f is)
  | .nilfn => c .nilfn
  | .mp i => fN i fun i => c (.mp i)
  | .nilmap => c .nilmap

def fL (l : List (AV K El)) (c : List (AV K El) → Prop) : Prop := match l with
  | [] => c []
  | v :: r => f1 v fun v => fL r fun r => c (v :: r)

def f2 (v : AV K El) (c : AV K El → Prop) : Prop := match v with
  | .agg cs => fL cs fun cs => c (.agg cs)
  | v => f1 v c

def fT (l : List (AV K El)) (c : List (AV K El) → Prop) : Prop := match l with
  | [] => c []
  | v :: r => f2 v fun v => fT r fun r => c (v :: r)

def f3 (v : AV K El) (c : AV K El → Prop) : Prop := match v with
  | .tup cs => fT cs fun cs => c (.tup cs)
  | v => f2 v c

/-- A map's entries, as far as they are told one by one. -/
def fM (l : List (AV K El × AV K El)) (c : List (AV K El × AV K El) → Prop) : Prop := c l

def fO (o : AO K El) (c : AO K El → Prop) : Prop := match o with
  | .gone => c .gone
  | .cells vs => fL vs fun vs => c (.cells vs)
  | .row k xs => c (.row k xs)
  | .siter s p => c (.siter s p)
  | .rowx k xs e vs => fL vs fun vs => c (.rowx k xs e vs)
  | .map es => fM es fun es => c (.map es)
  | .miter i => fN i fun i => c (.miter i)

def fH (H : Heap K El) (c : Heap K El → Prop) : Prop := match H with
  | [] => c []
  | o :: r => fO o fun o => fH r fun r => c (o :: r)

def fF (fr : Fr K El) (ks : List Nat) (c : Fr K El → Prop) : Prop := match ks with
  | [] => c []
  | t :: r => f3 (look fr t) fun v => fF fr r fun l => c ((t, v) :: l)

def putE (fr : Fr K El) (d : Option Nat) (v : AV K El) (c : Fr K El → Prop) : Prop := match d with
  | some d => c ((d, v) :: fr)
  | none => c fr

def quE (q : Bool) (H : Heap K El) (c : Heap K El → Prop) : Prop := match q with
  | true => c H
  | false => fH H c

def GIns.runE (S : Seat K El) (i : GIns K El) (fr : Fr K El) (H : Heap K El) (k : Fr K El → Heap K El → Prop) : Prop :=
  GE S i.p (opdsE fr i.xs) H fun r H' => f3 r fun r => quE i.p.quiet H' fun H' => match i.av with
    | [] => putE fr i.d r fun fr => k fr H'
    | av => avOK av (ofL fr) H H' ∧ putE fr i.d r fun fr => k fr H'

def GIns.vcE (S : Seat K El) (i : GIns K El) (fr : Fr K El) (H : Heap K El) (k : Fr K El → Heap K El → Prop) : Prop := match i.g with
  | none => i.runE S fr H k
  | some (s, want) => match gate (look fr s) want with
    | some b => cas b (i.runE S fr H k) (putE fr i.d (.tup []) fun fr => k fr H)
    | none => False

def vcLE (S : Seat K El) : List (GIns K El) → Fr K El → Heap K El → (Fr K El → Heap K El → Prop) → Prop
  | [], fr, H, k => k fr H
  | i :: l, fr, H, k => i.vcE S fr H fun fr' H' => vcLE S l fr' H' k

def zipE : List Nat → List (AV K El) → Fr K El
  | t :: r, v :: vs => (t, v) :: zipE r vs
  | _, _ => []

def vcE (S : Seat K El) (n0 : Nat) : AC K El → Fr K El → Heap K El → (Ex → Fr K El → Heap K El → Prop) → Prop
  | .skip, fr, H, Q => Q .normal fr H
  | .reg is ks, fr, H, Q => vcLE S is fr H fun fr' H' => fF fr' ks fun fr' => Q .normal fr' H'
  | .seq a b, fr, H, Q => vcE S n0 a fr H fun e fr' H' => match e with
    | .normal => vcE S n0 b fr' H' Q
    | e => Q e fr' H'
  | .cond c a b, fr, H, Q => match opdE fr c with
    | .bool t => cas t (vcE S n0 a fr H Q) (vcE S n0 b fr H Q)
    | _ => False
  | .block id a, fr, H, Q => vcE S n0 a fr H fun e fr' H' => match e with
    | .exit j => cas (Nat.beq j id) (Q .normal fr' H') (Q (.exit j) fr' H')
    | e => Q e fr' H'
  | .loop a ks, fr, H, Q => LoopP S n0 ks fr H fun vs H1 again => vcE S n0 a (zipE ks vs) H1 fun e fr2 H2 => match e with
        | .normal => again fr2 H2
        | e => Q e fr2 H2
  | .exit id, fr, H, Q => Q (.exit id) fr H
  | .ret, fr, H, Q => Q .ret fr H
  | .goto l, fr, H, Q => Q (.goto l) fr H
  | .bad, _, _, _ => False
  | .scope a l r, fr, H, Q => vcE S n0 a fr H fun e fr' H' => match e with
    | .goto l' => l' = l ∧ vcE S n0 r fr' H' fun e fr'' H'' => match e with
      | .goto _ => False
      | e => Q e fr'' H''
    | e => Q e fr' H'

def resE (S : Seat K El) (fr : Fr K El) (H : Heap K El) : List (Nat × Option (Nat × Bool)) → (List (AV K El) → Prop) → Prop
  | [], k => k []
  | (t, none) :: r, k => resE S fr H r fun vs => k (look fr t :: vs)
  | (t, some (n, ag)) :: r, k => rdE S H (look fr t) n fun us => resE S fr H r fun vs => k (cond ag (.agg us) (us.headD .junk) :: vs)

def endE (S : Seat K El) (n0 : Nat) (res : List (Nat × Option (Nat × Bool))) (R : AV K El → Heap K El → Prop) (e : Ex) (fr : Fr K El) (H : Heap K El) : Prop := match e with
  | .exit _ | .goto _ => False
  | _ => resE S fr H res fun vs => EndP n0 fr H vs R

/-! ### It is the same -/
variable {S : Seat K El}

theorem look_eq : ∀ (fr : Fr K El) (t : Nat), look fr t = ofL fr t
  | [], t => rfl
  | x :: l, t => by
    simp only [look, ofL, List.lookup]
    have : Nat.beq t x.1 = (t == x.1) := by
      cases hb : Nat.beq t x.1 with
      | true => simp [Nat.eq_of_beq_eq_true hb]
      | false => simp [Nat.ne_of_beq_eq_false hb]
    rw [this]
    cases t == x.1 with
    | true => rfl
    | false => exact look_eq l t

theorem opdE_eq (fr : Fr K El) (o : Opd K El) : opdE fr o = opdV (ofL fr) o := by cases o <;> simp [opdE, opdV, look_eq]

theorem opdsE_eq (fr : Fr K El) : ∀ (l : List (Opd K El)), opdsE fr l = l.map (opdV (ofL fr))
  | [] => rfl
  | o :: l => by simp [opdsE, opdE_eq, opdsE_eq fr l]

theorem updE_eq (fr : Fr K El) (d : Option Nat) (v : AV K El) : ofL (updE fr d v) = upd (ofL fr) d v := by
  cases d with
  | none => rfl
  | some d =>
    funext t
    simp only [updE, upd, ofL, List.lookup]
    by_cases h : t = d
    · subst h; simp
    · have : (t == d) = false := by simpa using h
      rw [this, if_neg h]

theorem andB_iff {b : Bool} {p : Prop} : andB b p ↔ b = true ∧ p := by cases b <;> simp [andB]

theorem leB_iff {a b : Nat} : leB a b = true ↔ a ≤ b := by simp [leB]

theorem cond_ite {α : Type} (b : Bool) (x y : α) : cond b x y = if b then x else y := by cases b <;> rfl

theorem rdE_to {H : Heap K El} {a : AV K El} {n : Nat} {k : List (AV K El) → Prop} (h : rdE S H a n k) : rd S H a n k := by
  unfold rdE at h
  split at h
  · split at h
    · rename_i hh
      have := andB_iff.1 h
      simp only [rd, hh]
      exact ⟨leB_iff.1 this.1, this.2⟩
    · exact h.elim
  · exact h

theorem wrE_to {H : Heap K El} {a : AV K El} {us : List (AV K El)} {k : Heap K El → Prop} (h : wrE S H a us k) : wr S H a us k := by
  unfold wrE at h
  split at h
  · split at h
    · rename_i hh
      have := andB_iff.1 h
      simp only [wr, hh]
      exact ⟨leB_iff.1 this.1, this.2⟩
    · exact h.elim
  · exact h

theorem binE_to {op : BinOp} {c : TC} {x y : AV K El} {kk : AV K El → Prop} (h : binE op c x y kk) : bin op c x y kk := by
  unfold binE at h
  split at h
  · split at h
    · exact h
    · exact h
    · have h3 := andB_iff.1 h
      have h4 := of_decide_eq_true h3.1
      unfold bin
      simp only
      exact ⟨h4, h3.2⟩
  · split at h
    · exact h
    · rw [strEq_iff] at h
      unfold bin
      simp only
      exact h
  · have h1 := andB_iff.1 h
    have h2 := andB_iff.1 h1.2
    exact ⟨h1.1, h2.1, h2.2⟩
  · exact h

theorem GE_to {p : Prim K El} {vs : List (AV K El)} {H : Heap K El} {k : AV K El → Heap K El → Prop} (h : GE S p vs H k) : G S p vs H k := by
  unfold GE at h
  split at h
  · exact andB_iff.1 h
  · simp only [cond_ite] at h; exact rdE_to h
  · have h1 := andB_iff.1 h
    have h2 := andB_iff.1 h1.2
    exact ⟨Nat.eq_of_beq_eq_true h1.1, h2.1, wrE_to h2.2⟩
  · exact andB_iff.1 h
  · have h1 := andB_iff.1 h
    have h2 := andB_iff.1 h1.2
    exact ⟨h1.1, h2.1, binE_to h2.2⟩
  · exact andB_iff.1 h
  · exact andB_iff.1 h
  · have h1 := andB_iff.1 h
    rw [cond_ite] at h1
    exact ⟨leB_iff.1 h1.1, h1.2⟩
  · exact andB_iff.1 h
  · exact h.get
  · have h1 := andB_iff.1 h
    exact ⟨h1.1, h1.2.get⟩
  · have h1 := andB_iff.1 h
    have h2 := andB_iff.1 h1.2
    exact ⟨h1.1, h2.1, h2.2.get⟩
  · split at h
    · rename_i his
      simp only [G, his]
      exact andB_iff.1 h
    · exact h.elim
  · simp only [cond_ite] at h; exact h
  · split at h
    · rename_i hi
      simp only [G, hi]
      simp only [cond_ite] at h
      exact ⟨(andB_iff.1 h).1, (andB_iff.1 h).2.get⟩
    · exact h.elim
  · split at h
    · rename_i hi
      simp only [G, hi]
      have h1 := andB_iff.1 h
      have h2 := andB_iff.1 h1.2
      exact ⟨h1.1, h2.1, h2.2.get⟩
    · exact h.elim
  · exact andB_iff.1 h
  · exact h

theorem fN_to {n : Nat} {c : Nat → Prop} (h : fN n c) : c n := by
  have key : ∀ (l : List Nat), fN.go n c l → c n := by
    intro l
    induction l with
    | nil => exact id
    | cons j l ih =>
      intro h
      simp only [fN.go] at h
      split at h
      · rename_i hb
        rw [Nat.eq_of_beq_eq_true hb]; exact h
      · exact ih h
  exact key _ h

theorem fC_to {x : Cp} {c : Cp → Prop} (h : fC x c) : c x := by cases x <;> exact h

theorem fI_to : ∀ {l : List (Option Nat)} {c : List (Option Nat) → Prop}, fI l c → c l
  | [], _, h => by unfold fI at h; exact h
  | none :: r, _, h => by
    unfold fI at h
    exact fI_to (l := r) h
  | some i :: r, _, h => by
    unfold fI at h
    exact fI_to (l := r) (fN_to h)

theorem f1_to {v : AV K El} {c : AV K El → Prop} (h : f1 v c) : c v := by
  cases v <;> first | exact h | exact fN_to h | exact fN_to (fN_to (n := _) h) | exact fC_to (fN_to (n := _) h) | exact fI_to h

theorem fL_to : ∀ {l : List (AV K El)} {c : List (AV K El) → Prop}, fL l c → c l
  | [], _, h => by unfold fL at h; exact h
  | v :: r, _, h => by
    unfold fL at h
    exact fL_to (l := r) (f1_to h)

theorem f2_to {v : AV K El} {c : AV K El → Prop} (h : f2 v c) : c v := by
  cases v <;> first | exact fL_to h | exact f1_to h

theorem fT_to : ∀ {l : List (AV K El)} {c : List (AV K El) → Prop}, fT l c → c l
  | [], _, h => by unfold fT at h; exact h
  | v :: r, _, h => by
    unfold fT at h
    exact fT_to (l := r) (f2_to h)

theorem f3_to {v : AV K El} {c : AV K El → Prop} (h : f3 v c) : c v := by
  cases v <;> first | exact fT_to h | exact f2_to h

theorem fO_to {o : AO K El} {c : AO K El → Prop} (h : fO o c) : c o := by
  cases o <;> first | exact h | exact fL_to h | exact fN_to h

theorem fH_to : ∀ {H : Heap K El} {c : Heap K El → Prop}, fH H c → c H
  | [], _, h => by unfold fH at h; exact h
  | v :: r, _, h => by
    unfold fH at h
    exact fH_to (H := r) (fO_to h)

theorem fF_to {fr : Fr K El} : ∀ {ks : List Nat} {c : Fr K El → Prop}, fF fr ks c → c (zipE ks (looks fr ks))
  | [], _, h => by unfold fF at h; exact h
  | t :: r, _, h => by
    unfold fF at h
    exact fF_to (ks := r) (f3_to h)

theorem putE_to {fr : Fr K El} {d : Option Nat} {v : AV K El} {c : Fr K El → Prop} (h : putE fr d v c) : c (updE fr d v) := by cases d <;> exact h

theorem quE_to {q : Bool} {H : Heap K El} {c : Heap K El → Prop} (h : quE q H c) : c H := by
  cases q
  · exact fH_to h
  · exact h

theorem runE_to {i : GIns K El} {fr : Fr K El} {H : Heap K El} {k : Fr K El → Heap K El → Prop} {k' : St K El → Prop} (h : i.runE S fr H k) (hk : ∀ fr' H', k fr' H' → k' ⟨ofL fr', H'⟩) : i.run S ⟨ofL fr, H⟩ k' := by
  unfold GIns.runE at h
  unfold GIns.run
  rw [opdsE_eq] at h
  refine G_mono (GE_to h) fun r H' h => ?_
  replace h := quE_to (f3_to h)
  rw [← updE_eq]
  split at h
  · rename_i hav
    rw [hav]
    exact ⟨trivial, hk _ _ (putE_to h)⟩
  · exact ⟨h.1, hk _ _ (putE_to h.2)⟩

theorem vcIE_to {i : GIns K El} {fr : Fr K El} {H : Heap K El} {k : Fr K El → Heap K El → Prop} {k' : St K El → Prop} (h : i.vcE S fr H k) (hk : ∀ fr' H', k fr' H' → k' ⟨ofL fr', H'⟩) : i.vc S ⟨ofL fr, H⟩ k' := by
  unfold GIns.vcE at h
  unfold GIns.vc
  split at h
  · rename_i hg
    simp only [hg]
    exact runE_to h hk
  · rename_i s want hg
    simp only [hg, ← look_eq]
    split at h
    · rename_i b hb
      simp only [hb, onO]
      rw [cas_iff] at h ⊢
      refine ⟨fun hh => runE_to (h.1 hh) hk, fun hh => ?_⟩
      have := hk _ _ (putE_to (h.2 hh))
      rw [updE_eq] at this
      exact this
    · exact h.elim

theorem vcLE_to : ∀ {is : List (GIns K El)} {fr : Fr K El} {H : Heap K El} {k : Fr K El → Heap K El → Prop} {k' : St K El → Prop}, vcLE S is fr H k → (∀ fr' H', k fr' H' → k' ⟨ofL fr', H'⟩) → vcL S is ⟨ofL fr, H⟩ k'
  | [], _, _, _, _, h, hk => hk _ _ h
  | _ :: _, _, _, _, _, h, hk => vcIE_to h fun _ _ h => vcLE_to h hk

theorem zip_looks (fr : Fr K El) : ∀ (ks : List Nat), zipE ks (looks fr ks) = ks.map fun t => (t, ofL fr t)
  | [] => rfl
  | t :: r => by simp [zipE, looks, look_eq, zip_looks fr r]

theorem looks_eq (fr : Fr K El) : ∀ (ks : List Nat), looks fr ks = ks.map (ofL fr)
  | [] => rfl
  | t :: r => by simp [looks, look_eq, looks_eq fr r]

theorem zip_map (f : Nat → AV K El) : ∀ (ks : List Nat), zipE ks (ks.map f) = ks.map fun t => (t, f t)
  | [] => rfl
  | t :: r => by simp [zipE, zip_map f r]

theorem map_zip : ∀ (ks : List Nat) (vs : List (AV K El)), ks.Nodup → vs.length = ks.length → ks.map (ofL (zipE ks vs)) = vs
  | [], vs, _, h => (List.length_eq_zero_iff.1 h).symm
  | t :: r, [], _, h => by simp at h
  | t :: r, v :: vs, hn, h => by
    have hn' := List.nodup_cons.1 hn
    have ih := map_zip r vs hn'.2 (by simpa using h)
    simp only [zipE, List.map_cons]
    congr 1
    · simp [ofL]
    · refine Eq.trans (List.map_congr_left fun u hu => ?_) ih
      have hne : (u == t) = false := by
        have : u ≠ t := fun h => hn'.1 (h ▸ hu)
        simpa using this
      simp [ofL, List.lookup, hne]

theorem ghE_to : ∀ {gs : List (GStep K)} {fr fr' : Fr K El} {H H' : Heap K El}, ghE gs fr H = some (fr', H') → Gh ⟨ofL fr, H⟩ ⟨ofL fr', H'⟩
  | [], fr, fr', H, H', h => by cases h; exact .refl _
  | .slot t k :: gs, fr, fr', H, H', h => by
    simp only [ghE] at h
    split at h
    · rename_i hl
      rw [look_eq] at hl
      refine .slot t k hl ?_
      have := ghE_to h
      rw [← updE_eq]
      exact this
    · cases h
  | .cell i j k :: gs, fr, fr', H, H', h => by
    simp only [ghE] at h
    split at h
    · rename_i vs hi
      split at h
      · rename_i hj
        exact .cell i j k vs hi hj (ghE_to h)
      · cases h
    · cases h

theorem vcE_to {n0 : Nat} : ∀ {ac : AC K El} {fr : Fr K El} {H : Heap K El} {Q : Ex → Fr K El → Heap K El → Prop} {Q' : Ex → St K El → Prop}, vcE S n0 ac fr H Q → (∀ e fr' H', Q e fr' H' → Q' e ⟨ofL fr', H'⟩) → vc S n0 ac ⟨ofL fr, H⟩ Q'
  | .skip, _, _, _, _, h, hq => hq _ _ _ h
  | .exit _, _, _, _, _, h, hq => hq _ _ _ h
  | .ret, _, _, _, _, h, hq => hq _ _ _ h
  | .goto _, _, _, _, _, h, hq => hq _ _ _ h
  | .bad, _, _, _, _, h, _ => h.elim
  | .reg is ks, _, _, _, _, h, hq => vcLE_to h fun fr' H' h => by
    have := hq _ _ _ (fF_to h)
    rw [zip_looks] at this
    exact this
  | .seq a b, _, _, _, _, h, hq => vcE_to (ac := a) h fun e fr' H' h => by
    cases e with
    | normal => exact vcE_to (ac := b) h hq
    | exit _ => exact hq _ _ _ h
    | ret => exact hq _ _ _ h
    | goto _ => exact hq _ _ _ h
  | .cond c a b, fr, _, _, _, h, hq => by
    unfold vcE at h
    unfold vc
    rw [← opdE_eq]
    split at h
    · rename_i t ht
      rw [ht]
      simp only [onB]
      rw [cas_iff] at h ⊢
      exact ⟨fun hh => vcE_to (h.1 hh) hq, fun hh => vcE_to (h.2 hh) hq⟩
    · exact h.elim
  | .block id a, _, _, _, _, h, hq => vcE_to (ac := a) h fun e fr' H' h => by
    cases e with
    | exit j =>
      simp only at h ⊢
      rw [cas_iff] at h
      split
      · rename_i hj
        exact hq _ _ _ (h.1 (by rw [hj]; simp))
      · rename_i hj
        refine hq _ _ _ (h.2 ?_)
        cases hb : Nat.beq j id with
        | true => exact absurd (Nat.eq_of_beq_eq_true hb) hj
        | false => rfl
    | normal => exact hq _ _ _ h
    | ret => exact hq _ _ _ h
    | goto _ => exact hq _ _ _ h
  | .loop a ks, fr, H, Q, Q', h, hq => by
    unfold vcE at h
    unfold vc
    have rel : ∀ (fr : Fr K El) (H : Heap K El) (ids lent : List Nat), (St.relo ⟨ofL fr, H⟩ ids lent ks).fr = ofL (zipE ks ((looks fr ks).map (loc H ids lent))) := by
      intro fr H ids lent
      rw [looks_eq, List.map_map, zip_map]
      rfl
    have lenE : ∀ (fr : Fr K El) (H : Heap K El) (ids lent : List Nat), ((looks fr ks).map (loc H ids lent)).length = ks.length := by
      intro fr H ids lent; simp [looks_eq]
    have mu : ks.Nodup → ∀ (fr : Fr K El) (H : Heap K El) (ids lent : List Nat), ks.map (St.relo ⟨ofL fr, H⟩ ids lent ks).fr = (looks fr ks).map (loc H ids lent) := by
      intro hn fr H ids lent
      rw [rel, map_zip ks _ hn (lenE fr H ids lent)]
    rcases h.get with ⟨Inv, μ, hn, ⟨gs, fr0, H0, hg, ids, lent, ho, hi⟩, hb⟩ | ⟨Inv, μ, hn, ⟨gs, fr0, H0, hg, ids, lent, ho, H3, hx, hi⟩, hb⟩
    · refine ⟨fun st => ∃ vs, vs.length = ks.length ∧ st.fr = ofL (zipE ks vs) ∧ Inv vs st.H, fun st => μ (ks.map st.fr) st.H, ⟨_, ghE_to hg, ids, lent, ho, _, .refl _, _, lenE .., rel .., hi⟩, ?_⟩
      rintro ⟨f1, H1⟩ ⟨vs, hl, rfl, hinv⟩
      refine vcE_to (ac := a) (hb vs H1 hl hinv) fun e fr2 H2 h => ?_
      cases e with
      | normal =>
        obtain ⟨ids, lent, ho, hi, hm⟩ := h
        refine ⟨ids, lent, ho, _, .refl _, ⟨_, lenE .., rel .., hi⟩, ?_⟩
        simp only [mu hn]
        rw [map_zip ks vs hn hl]
        exact hm
      | exit _ => exact hq _ _ _ h
      | ret => exact hq _ _ _ h
      | goto _ => exact hq _ _ _ h
    · refine ⟨fun st => ∃ vs, vs.length = ks.length ∧ st.fr = ofL (zipE ks vs) ∧ Inv vs st.H, fun st => μ (ks.map st.fr) st.H, ⟨_, ghE_to hg, ids, lent, ho, H3, hx, _, lenE .., rel .., hi⟩, ?_⟩
      rintro ⟨f1, H1⟩ ⟨vs, hl, rfl, hinv⟩
      refine vcE_to (ac := a) (hb vs H1 hl hinv) fun e fr2 H2 h => ?_
      cases e with
      | normal =>
        obtain ⟨ids, lent, ho, H4, hx, hi, hm⟩ := h
        refine ⟨ids, lent, ho, H4, hx, ⟨_, lenE .., rel .., hi⟩, ?_⟩
        simp only [mu hn]
        rw [map_zip ks vs hn hl]
        exact hm
      | exit _ => exact hq _ _ _ h
      | ret => exact hq _ _ _ h
      | goto _ => exact hq _ _ _ h
  | .scope a l r, _, _, _, _, h, hq => vcE_to (ac := a) h fun e fr' H' h => by
    cases e with
    | goto l' =>
      refine ⟨h.1, vcE_to (ac := r) h.2 fun e fr' H' h => ?_⟩
      cases e with
      | goto _ => exact h.elim
      | normal => exact hq _ _ _ h
      | exit _ => exact hq _ _ _ h
      | ret => exact hq _ _ _ h
    | normal => exact hq _ _ _ h
    | exit _ => exact hq _ _ _ h
    | ret => exact hq _ _ _ h

theorem resE_to {fr : Fr K El} {H : Heap K El} : ∀ {res : List (Nat × Option (Nat × Bool))} {k k' : List (AV K El) → Prop}, resE S fr H res k → (∀ vs, k vs → k' vs) → resVC S ⟨ofL fr, H⟩ res k'
  | [], _, _, h, hk => hk _ h
  | (t, none) :: r, _, _, h, hk => resE_to (res := r) h fun vs h => by
    have := hk _ h
    rw [look_eq] at this
    exact this
  | (t, some (n, ag)) :: r, _, _, h, hk => by
    simp only [resE] at h
    rw [look_eq] at h
    refine rd_mono (rdE_to h) fun us h => ?_
    refine resE_to (res := r) h fun vs h => ?_
    rw [cond_ite] at h
    exact hk _ h

theorem entryE_eq : ∀ (vs : List (AV K El)) (n t : Nat), n ≤ t → ofL (entryE n vs) t = vs.getD (t - n) .junk
  | [], n, t, _ => rfl
  | v :: vs, n, t, h => by
    simp only [entryE, ofL, List.lookup]
    by_cases he : t = n
    · subst he; simp
    · have hb : (t == n) = false := by simpa using he
      rw [hb]
      have := entryE_eq vs (n + 1) t (by omega)
      simp only [ofL] at this
      rw [this, show t - n = (t - (n + 1)) + 1 by omega]
      rfl

theorem entryE_fn (vs : List (AV K El)) : ofL (entryE 0 vs) = entryF vs := by
  funext t
  rw [entryE_eq vs 0 t (Nat.zero_le _)]
  rfl

theorem EndP.to {n0 : Nat} {fr : Fr K El} {H : Heap K El} {vs : List (AV K El)} {R : AV K El → Heap K El → Prop} (h : EndP n0 fr H vs R) :
    ∃ st', Gh ⟨entryF vs, H⟩ st' ∧ ∃ ids lent, OkRelo n0 ⟨ofL fr, st'.H⟩ ids lent [] ∧ okV st'.H ids lent (oneOr (tabF vs.length st'.fr)) ∧ (tabF vs.length st'.fr).all AV.ntup = true ∧
      R (loc st'.H ids lent (oneOr (tabF vs.length st'.fr))) (locH st'.H ids lent) := by
  obtain ⟨gs, fr', H', hg, h⟩ := h.get
  have := ghE_to hg
  rw [entryE_fn] at this
  exact ⟨_, this, h⟩

theorem tab_entry (vs : List (AV K El)) : tabF vs.length (ofL (entryE 0 vs)) = vs := by
  rw [entryE_fn]
  refine List.ext_getElem (by simp [tabF]) fun i h1 h2 => ?_
  simp [tabF, entryF, h2]

/-- A function's contract, by evaluation. -/
theorem specE (ok : Ok S) {f : Nat} {kf : List Nat} {hs : List (List Nat)} {F : FC K El} (hc : shade S f kf hs = some F) {vs : List (AV K El)} {H : Heap K El} {R : AV K El → Heap K El → Prop} (hargs : leB vs.length F.n = true)
    (h : vcE S H.length F.ac (entryE 0 vs) H (endE S H.length F.res R)) : Spec S f vs H R := by
  refine spec_of ok hc (leB_iff.1 hargs) ?_
  rw [← entryE_fn]
  refine vcE_to h fun e fr' H' h => ?_
  cases e with
  | exit _ => exact h.elim
  | goto _ => exact h.elim
  | normal => exact resE_to h fun _ h => h.to
  | ret => exact resE_to h fun _ h => h.to

end Sh
end Go.Proofs.YtomdfaelgcefdaaGreatDoor
