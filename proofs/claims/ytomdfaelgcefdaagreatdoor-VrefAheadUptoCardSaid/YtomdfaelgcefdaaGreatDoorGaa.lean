/- Sh1. -/
import Derived.WalkKit
import Derived.Orders
import Derived.Laws.MakeOwn
import Derived.KernelRfl
set_option maxRecDepth 100000
set_option maxHeartbeats 64000000
namespace Go.Proofs.YtomdfaelgcefdaaGreatDoor
open Go
namespace Sh
inductive Loc where
 | gone
 | nil
 | blk (b : Nat)
deriving DecidableEq
inductive Cp where
 | full
 | whole
 | unk
deriving DecidableEq
inductive AV (K : Type) (El : K → Type) : Type where
 | junk
 | cell
 | bool (b : Bool)
 | int (k : IntKind) (n : Int)
 | str (s : ByteArray)
 | nilp
 | ptr (i off : Nat)
 | eptr (k : K) (i e off : Nat)
 | iptr (k : K) (xs : List (El k)) (e off : Nat)
 | nils
 | own (k : K) (i lo len : Nat) (c : Cp)
 | imm (k : K) (xs : List (El k))
 | agg (cs : List (AV K El))
 | tup (vs : List (AV K El))
 | fn (f : Nat)
 | clo (f : Nat) (is : List (Option Nat))
 | nilfn
 | mp (i : Nat)
 | nilmap
inductive AO (K : Type) (El : K → Type) : Type where
 | gone
 | cells (vs : List (AV K El))
 | row (k : K) (xs : List (El k))
 | siter (s : ByteArray) (pos : Nat)
 | rowx (k : K) (xs : List (El k)) (e : Nat) (vs : List (AV K El))
 | map (es : List (AV K El × AV K El))
 | miter (i : Nat)
 | arr (k : K) (xs : List (El k))
variable {K : Type} {El : K → Type}
def AV.one : AV K El → Bool
 | .junk | .agg _ | .tup _ => false
 | _ => true
def AV.ntup : AV K El → Bool
 | .tup _ => false
 | _ => true
def AV.free : AV K El → Bool
 | .ptr _ _ | .eptr _ _ _ _ | .own _ _ _ _ _ | .agg _ | .tup _ | .junk | .clo _ _ | .mp _ => false
 | _ => true
def AV.cells : AV K El → List (AV K El)
 | .agg cs => cs
 | v => [v]
abbrev Heap (K : Type) (El : K → Type) := List (AO K El)
structure Seat (K : Type) (El : K → Type) where
 P : Program
 dec : DecidableEq K
 size : K → Nat
 bytes : K → Nat
 ty : K → TypeId
 enc : (k : K) → El k → List (AV K El)
 unc : (k : K) → List (AV K El) → Option (El k)
 zero : (k : K) → El k
 kd : TypeId → Option K
 flat : K → Bool
 glb : List Nat := []
 inv : World → Prop := fun _ => True
def castL (S : Seat K El) (k k' : K) (xs : List (El k)) : Option (List (El k')) :=
 match S.dec k k' with
 | isTrue h => some (h ▸ xs)
 | isFalse _ => none
def cas (b : Bool) (p q : Prop) : Prop := match b with
 | true => p
 | false => q
theorem cas_iff {b : Bool} {p q : Prop} : cas b p q ↔ (b = true → p) ∧ (b = false → q) := by cases b <;> simp [cas]
def constAV : Value → Option (AV K El)
 | .bool b => some (.bool b)
 | .int k n => some (.int k n)
 | .string s => some (.str s)
 | .pointer none => some .nilp
 | .slice none 0 0 => some .nils
 | .func (.func f) ⟨[]⟩ ⟨[]⟩ => some (.fn f)
 | .nilFunc => some .nilfn
 | .map none => some .nilmap
 | v => if v.oneCell' then some .cell else none
def constV : Value → Option (AV K El)
 | .agg cs => (cs.toList.mapM constAV).map .agg
 | v => constAV v
inductive Opd (K : Type) (El : K → Type) where
 | tmp (t : Nat)
 | const (v : AV K El)
structure St (K : Type) (El : K → Type) where
 fr : Nat → AV K El
 H : Heap K El
def upd (fr : Nat → AV K El) (d : Option Nat) (v : AV K El) : Nat → AV K El := match d with
 | some d => fun t => if t = d then v else fr t
 | none => fr
def ofL (l : List (Nat × AV K El)) : Nat → AV K El := fun t => (l.lookup t).getD .junk
def splice {α : Type} (vs : List α) (off : Nat) (us : List α) : List α := vs.take off ++ us ++ vs.drop (off + us.length)
def rd (S : Seat K El) (H : Heap K El) (a : AV K El) (n : Nat) (k : List (AV K El) → Prop) : Prop := match a with
 | .ptr i off => match H[i]? with
  | some (.cells vs) => off + n ≤ vs.length ∧ k ((vs.drop off).take n)
  | _ => False
 | .eptr kk i e off => match H[i]? with
  | some (.row kr xs) => kr = kk ∧ e < xs.length ∧ off + n ≤ S.size kr ∧ k (((S.enc kr (xs.getD e (S.zero kr))).drop off).take n)
  | some (.rowx kr _ e0 vs) => kr = kk ∧ e = e0 ∧ off + n ≤ vs.length ∧ k ((vs.drop off).take n)
  | _ => False
 | .iptr kk xs e off => e < xs.length ∧ off + n ≤ S.size kk ∧ k (((S.enc kk (xs.getD e (S.zero kk))).drop off).take n)
 | _ => False
def wr (S : Seat K El) (H : Heap K El) (a : AV K El) (us : List (AV K El)) (k : Heap K El → Prop) : Prop := match a with
 | .ptr i off => match H[i]? with
  | some (.cells vs) => off + us.length ≤ vs.length ∧ k (H.set i (.cells (splice vs off us)))
  | _ => False
 | .eptr kk i e off => match H[i]? with
  | some (.row kr xs) => kr = kk ∧ e < xs.length ∧ off + us.length ≤ S.size kr ∧ match S.unc kr (splice (S.enc kr (xs.getD e (S.zero kr))) off us) with
   | some x => k (H.set i (.row kr (xs.set e x)))
   | none => False
  | some (.rowx kr xs e0 vs) => kr = kk ∧ e = e0 ∧ off + us.length ≤ vs.length ∧ k (H.set i (.rowx kr xs e0 (splice vs off us)))
  | _ => False
 | _ => False
def content (S : Seat K El) (H : Heap K El) (kk : K) (s : AV K El) (k : List (El kk) → Prop) : Prop := match s with
 | .nils => k []
 | .imm k' xs => match castL S k' kk xs with
  | some ys => k ys
  | none => False
 | .own k' i lo len _ => match H[i]? with
  | some (.row kr xs) => kr = k' ∧ lo + len ≤ xs.length ∧ match castL S kr kk ((xs.drop lo).take len) with
   | some ys => k ys
   | none => False
  | some (.arr kr xs) => kr = k' ∧ lo + len ≤ xs.length ∧ match castL S kr kk ((xs.drop lo).take len) with
   | some ys => k ys
   | none => False
  | _ => False
 | _ => False
def alive (H : Heap K El) : AV K El → Bool
 | .ptr i _ | .eptr _ i _ _ | .own _ i _ _ _ | .mp i => match H[i]? with
  | some .gone | none => false
  | _ => true
 | .clo _ is => is.all fun o => match o with
  | none => true
  | some i => match H[i]? with
   | some .gone | none => false
   | _ => true
 | _ => true
inductive CK where
 | b
 | i
 | s
def kd1 : CK → AV K El → Bool
 | .b,.bool _ | .i,.int _ _ | .s,.str _ => true
 | _,_ => false
def kds : List CK → List (AV K El) → Bool
 | [],[] => true
 | c :: cs,u :: us => kd1 c u && kds cs us
 | _,_ => false
inductive TC where
 | num
 | boo
 | ptr
 | fn
 | agg (ks : List CK)
inductive Prim (K : Type) (El : K → Type) where
 | mov
 | pick
 | alloc (z : List (AV K El))
 | box
 | build (z : List (AV K El)) (ps : List (Nat × Nat))
 | mkrow (k : K)
 | load (n : Nat) (isAgg : Bool)
 | store (n : Nat)
 | nilck
 | bin (op : BinOp) (c : TC)
 | un (op : UnOp)
 | conv (k : IntKind)
 | b2s (k : K)
 | rangeS
 | nextS
 | slice (k : K) (lo hi mx : Bool)
 | sslice (lo hi : Bool)
 | faddr (off : Nat)
 | field (off n : Nat) (isAgg : Bool)
 | iaddr (k : K)
 | sindex
 | extract (j : Nat)
 | call (f : Nat)
 | callv
 | append (k : K)
 | copy (k : K)
 | len (str : Bool)
 | mkslice (k : K)
 | mkfn (f : Nat)
 | alloca (k : K) (n : Nat)
 | slicea (k : K) (n : Nat)
 | appendS (k : K)
 | aindex (len sz : Nat) (isAgg : Bool)
 | mkmap
 | mlook (c : CK) (z : AV K El) (ok : Bool)
 | mput (c : CK)
 | rangeM
 | nextM
 | bad
def binI (op : BinOp) (k : IntKind) (m n : Int) (kk : AV K El → Prop) : Prop := match op with
 | .add => kk (.int k (k.wrap (m + n)))
 | .sub => kk (.int k (k.wrap (m - n)))
 | .mul => kk (.int k (k.wrap (m * n)))
 | .quo => n ≠ 0 ∧ kk (.int k (k.wrap (m.tdiv n)))
 | .rem => n ≠ 0 ∧ kk (.int k (m.tmod n))
 | .and => kk (.int k (k.wrap (BitVec.ofInt k.bits m &&& BitVec.ofInt k.bits n).toNat))
 | .or => kk (.int k (k.wrap (BitVec.ofInt k.bits m ||| BitVec.ofInt k.bits n).toNat))
 | .xor => kk (.int k (k.wrap (BitVec.ofInt k.bits m ^^^ BitVec.ofInt k.bits n).toNat))
 | .eql => kk (.bool (m == n))
 | .neq => kk (.bool (m != n))
 | .lss => kk (.bool (decide (m < n)))
 | .leq => kk (.bool (decide (m ≤ n)))
 | .gtr => kk (.bool (decide (n < m)))
 | .geq => kk (.bool (decide (n ≤ m)))
 | _ => False
def shI (op : BinOp) (k : IntKind) (m n : Int) (kk : AV K El → Prop) : Prop := match op with
 | .shl => 0 ≤ n ∧ kk (.int k (k.wrap (m * 2 ^ (min n.toNat k.bits))))
 | .shr => 0 ≤ n ∧ kk (.int k (m.fdiv (2 ^ (min n.toNat k.bits))))
 | _ => False
def eq1 : AV K El → AV K El → Option Bool
 | .bool a,.bool b => some (a == b)
 | .int j a,.int k b => if j = k then some (a == b) else none
 | .str a,.str b => some (a.toList == b.toList)
 | _,_ => none
def eqs : List (AV K El) → List (AV K El) → Option Bool
 | [],[] => some true
 | a :: l,b :: m => match eq1 a b,eqs l m with
  | some x,some y => some (x && y)
  | _,_ => none
 | _,_ => none
def eqP : AV K El → AV K El → Option Bool
 | .nilp,.nilp => some true
 | .nilp,.ptr _ _ => some false
 | .ptr _ _,.nilp => some false
 | .nilp,.eptr _ _ _ _ => some false
 | .eptr _ _ _ _,.nilp => some false
 | .nilp,.iptr _ _ _ _ => some false
 | .iptr _ _ _ _,.nilp => some false
 | _,_ => none
def eqF : AV K El → AV K El → Option Bool
 | .nilfn,.nilfn => some true
 | .nilfn,.fn _ => some false
 | .fn _,.nilfn => some false
 | .nilfn,.clo _ _ => some false
 | .clo _ _,.nilfn => some false
 | _,_ => none
def mfind (k : AV K El) : List (AV K El × AV K El) → Nat → Option (Option (Nat × AV K El))
 | [],_ => some none
 | e :: es,i => match eq1 k e.1 with
  | some true => some (some (i,e.2))
  | some false => mfind k es (i + 1)
  | none => none
def eqK (op : BinOp) (b : Option Bool) (kk : AV K El → Prop) : Prop := match op,b with
 | .eql,some b => kk (.bool b)
 | .neq,some b => kk (.bool (!b))
 | _,_ => False
def bin (op : BinOp) (c : TC) (x y : AV K El) (kk : AV K El → Prop) : Prop := match c,x,y with
 | .num,.int k m,.int k' n => match op with
  | .shl | .shr => shI op k m n kk
  | _ => k = k' ∧ binI op k m n kk
 | .num,.str a,.str b => match op with
  | .add => ((a.size + b.size : Nat) : Int) ≤ IntKind.i64.max ∧ kk (.str (a ++ b))
  | _ => eqK op (some (a.toList == b.toList)) kk
 | .boo,.bool a,.bool b => eqK op (some (a == b)) kk
 | .ptr,x,y => eqK op (eqP x y) kk
 | .fn,x,y => eqK op (eqF x y) kk
 | .agg ks,.agg l,.agg m => kds ks l = true ∧ kds ks m = true ∧ eqK op (eqs l m) kk
 | _,_,_ => False
def un (op : UnOp) (x : AV K El) (kk : AV K El → Prop) : Prop := match op,x with
 | .not,.bool b => kk (.bool (!b))
 | .neg,.int k n => kk (.int k (k.wrap (0 - n)))
 | _,_ => False
def lay (z : List (AV K El)) : List (Nat × Nat) → List (AV K El) → Option (List (AV K El))
 | [],[] => some z
 | (off,n) :: ps,v :: vs => if v.cells.length = n ∧ off + n ≤ z.length ∧ v.cells.all AV.one then lay (splice z off v.cells) ps vs else none
 | _,_ => none
def rowOf (S : Seat K El) (k : K) : List (AV K El) → Option (List (El k))
 | [] => some []
 | v :: vs => match S.unc k v.cells,rowOf S k vs with
  | some x,some xs => some (x :: xs)
  | _,_ => none
def fits (S : Seat K El) (k : K) (n : Nat) : Prop := n ≤ maxLen ∧ n * S.bytes k ≤ 140737488355328
def cpOf {α : Type} : List α → Cp
 | [] => .whole
 | _ :: _ => .full
def byteV : List (AV K El) → Int
 | [.int _ n] => n
 | _ => 0
def bytesS (S : Seat K El) (k : K) (ys : List (El k)) : ByteArray := ys.foldl (fun r y => r.push (UInt8.ofNat (byteV (S.enc k y)).toNat)) ByteArray.empty
def app (S : Seat K El) (H : Heap K El) (k : K) (s : AV K El) (ys : List (El k)) (kk : AV K El → Heap K El → Prop) : Prop := match s with
 | .nils => fits S k ys.length ∧ kk (.own k H.length 0 ys.length .whole) (H ++ [.row k ys])
 | .own k' i lo len c => match H[i]? with
  | some (.row kr xs) => match castL S kr k xs with
   | some xs => kr = k' ∧ lo + len ≤ xs.length ∧ fits S k (len + ys.length) ∧ match c with
    | .whole => lo = 0 ∧ kk (.own k H.length 0 (len + ys.length) .whole) (H.set i .gone ++ [.row k (xs.take len ++ ys)])
    | .full => ys ≠ [] ∧ kk (.own k H.length 0 (len + ys.length) .whole) (H ++ [.row k ((xs.drop lo).take len ++ ys)])
    | .unk => False
   | none => False
  | _ => False
 | _ => False
def sliceOwn (k : K) (i lo len : Nat) (c : Cp) (l h : Int) (m : Option Int) (kk : AV K El → Prop) : Prop :=
 0 ≤ l ∧ l ≤ h ∧ h ≤ len ∧ match m with
 | none => kk (.own k i (lo + l.toNat) (h.toNat - l.toNat) (match c with | .whole => .whole | _ => .unk))
 | some m => m = h ∧ kk (.own k i (lo + l.toNat) (h.toNat - l.toNat) .full)
def idx (on : Bool) (v : Option (AV K El)) (dflt : Int) (kk : Int → Prop) : Prop := match on,v with
 | false,_ => kk dflt
 | true,some (.int _ n) => kk n
 | _,_ => False
def slc (k : K) (lo hi mx : Bool) (x : AV K El) (vs : List (AV K El)) (kk : AV K El → Prop) : Prop :=
 let vlo := if lo then vs[0]? else none
 let vhi := vs[lo.toNat]?
 let vmx := vs[lo.toNat + hi.toNat]?
 match x with
 | .own k' i l0 len c => idx lo vlo 0 fun l => idx hi vhi len fun h => k' = k ∧
     if mx then idx mx vmx 0 fun m => sliceOwn k i l0 len c l h (some m) kk else sliceOwn k i l0 len c l h none kk
 | .imm kx xs => idx lo vlo 0 fun l => idx hi vhi xs.length fun h =>
     kx = k ∧ 0 ≤ l ∧ l ≤ h ∧ h ≤ xs.length ∧ mx = false ∧ kk (.imm kx ((xs.take h.toNat).drop l.toNat))
 | .nils => idx lo vlo 0 fun l => idx hi vhi 0 fun h => l = 0 ∧ h = 0 ∧ mx = false ∧ kk .nils
 | _ => False
def locIs (ids : List Nat) : List (Option Nat) → Option (List (Option Nat))
 | [] => some []
 | none :: r => match locIs ids r with
  | some js => some (none :: js)
  | none => none
 | some i :: r => match ids.idxOf? i,locIs ids r with
  | some j,some js => some (some j :: js)
  | _,_ => none
def loc1 (H : Heap K El) (ids lent : List Nat) : AV K El → AV K El
 | .ptr i off => match ids.idxOf? i with
  | some j => .ptr j off
  | none => .cell
 | .eptr k i e off => match ids.idxOf? i with
  | some j => .eptr k j e off
  | none => if lent.contains i then match H[i]? with
      | some (.row kr xs) => .iptr kr xs e off
      | _ => .cell
   else .cell
 | .own k i lo len c => match ids.idxOf? i with
  | some j => .own k j lo len c
  | none => if lent.contains i then match H[i]? with
      | some (.row kr xs) => .imm kr ((xs.drop lo).take len)
      | _ => .cell
   else .cell
 | .clo f is => match locIs ids is with
  | some js => .clo f js
  | none => .cell
 | .mp i => match ids.idxOf? i with
  | some j => .mp j
  | none => .cell
 | v => v
def loc2 (H : Heap K El) (ids lent : List Nat) : AV K El → AV K El
 | .agg cs => .agg (cs.map (loc1 H ids lent))
 | v => loc1 H ids lent v
def loc (H : Heap K El) (ids lent : List Nat) : AV K El → AV K El
 | .tup vs => .tup (vs.map (loc2 H ids lent))
 | v => loc2 H ids lent v
def locO (H : Heap K El) (ids lent : List Nat) : AO K El → AO K El
 | .cells vs => .cells (vs.map (loc1 H ids lent))
 | .rowx k xs e vs => .rowx k xs e (vs.map (loc1 H ids lent))
 | .miter i => match ids.idxOf? i with
  | some j => .miter j
  | none => .gone
 | o => o
def locH (H : Heap K El) (ids lent : List Nat) : Heap K El := ids.map fun i => locO H ids lent (H.getD i .gone)
def ok1 (H : Heap K El) (ids lent : List Nat) : AV K El → Prop
 | .eptr k i _ _ => match ids.idxOf? i with
  | some _ => True
  | none => if lent.contains i then match H[i]? with
      | some (.row kr _) => kr = k
      | _ => True
   else True
 | .own k i lo len _ => match ids.idxOf? i with
  | some _ => True
  | none => if lent.contains i then match H[i]? with
      | some (.row kr xs) => kr = k ∧ lo + len ≤ xs.length
      | _ => True
   else True
 | _ => True
def okL (H : Heap K El) (ids lent : List Nat) : List (AV K El) → Prop
 | [] => True
 | v :: vs => ok1 H ids lent v ∧ okL H ids lent vs
def ok2 (H : Heap K El) (ids lent : List Nat) : AV K El → Prop
 | .agg cs => okL H ids lent cs
 | v => ok1 H ids lent v
def okT (H : Heap K El) (ids lent : List Nat) : List (AV K El) → Prop
 | [] => True
 | v :: vs => ok2 H ids lent v ∧ okT H ids lent vs
def okV (H : Heap K El) (ids lent : List Nat) : AV K El → Prop
 | .tup vs => okT H ids lent vs
 | v => ok2 H ids lent v
def okO (H : Heap K El) (ids lent : List Nat) : AO K El → Prop
 | .cells vs => okL H ids lent vs
 | .rowx _ _ _ vs => okL H ids lent vs
 | _ => True
def okH (H : Heap K El) (ids lent : List Nat) : List Nat → Prop
 | [] => True
 | i :: r => okO H ids lent (H.getD i .gone) ∧ okH H ids lent r
def glob1 (n : Nat) (ids : List Nat) : AV K El → AV K El
 | .ptr j off => .ptr (if j < ids.length then ids.getD j 0 else n + (j - ids.length)) off
 | .eptr k j e off => .eptr k (if j < ids.length then ids.getD j 0 else n + (j - ids.length)) e off
 | .own k j lo len c => .own k (if j < ids.length then ids.getD j 0 else n + (j - ids.length)) lo len c
 | .clo f is => .clo f (is.map fun o => match o with
  | none => none
  | some j => some (if j < ids.length then ids.getD j 0 else n + (j - ids.length)))
 | .mp j => .mp (if j < ids.length then ids.getD j 0 else n + (j - ids.length))
 | v => v
def glob2 (n : Nat) (ids : List Nat) : AV K El → AV K El
 | .agg cs => .agg (cs.map (glob1 n ids))
 | v => glob1 n ids v
def glob (n : Nat) (ids : List Nat) : AV K El → AV K El
 | .tup vs => .tup (vs.map (glob2 n ids))
 | v => glob2 n ids v
def globO (n : Nat) (ids : List Nat) : AO K El → AO K El
 | .cells vs => .cells (vs.map (glob1 n ids))
 | .rowx k xs e vs => .rowx k xs e (vs.map (glob1 n ids))
 | .miter j => .miter (if j < ids.length then ids.getD j 0 else n + (j - ids.length))
 | o => o
def globH (H : Heap K El) (ids : List Nat) (H' : Heap K El) : Heap K El :=
 put H ids H' ++ (H'.drop ids.length).map (globO H.length ids)
 where
 put (H0 : Heap K El) : List Nat → Heap K El → Heap K El
  | i :: r,o :: os => put (H0.set i (globO H.length ids o)) r os
  | _,_ => H0
def pure1 : AV K El → Bool
 | .imm _ _ | .iptr _ _ _ _ => false
 | _ => true
def AV.data : AV K El → Bool
 | .bool _ | .int _ _ | .str _ | .fn _ | .nilfn | .nilp | .nils | .nilmap => true
 | _ => false
def pure2 : AV K El → Bool
 | .agg cs => cs.all pure1
 | v => pure1 v
def pureV : AV K El → Bool
 | .tup vs => vs.all pure2
 | v => pure2 v
def pureO (S : Seat K El) : AO K El → Bool
 | .gone => true
 | .cells vs => vs.all pure1
 | .row k _ => S.flat k
 | .siter _ _ => true
 | .rowx k _ _ vs => S.flat k && vs.all pure1
 | .map _ => true
 | .miter _ => true
 | .arr k _ => S.flat k
end Sh
end Go.Proofs.YtomdfaelgcefdaaGreatDoor
