/- The element types of this seat, and that they are what the program says. -/
import Derived.Test.YtanonfilhgkkcaaSh18
import Derived.Test.YtanonfilhgkkcaaProg
namespace Go.Proofs.Ytanonfilhgkkcaa
open Go
namespace Sh

structure Ref where
  kind : Int
  addr : Int
  out : Bool

structure Val where
  type : Int
  bits : Int
  ref : Ref

structure Opn where
  what : Int
  at_ : Int
  to : Int
  n : Int
  most : Int
  v : Val
  l : Option (List Val)
  r : Option (List Ref)

inductive KT where
  | value
  | ref
  | u8
  | op
deriving DecidableEq

abbrev ElT : KT → Type
  | .value => Val
  | .ref => Ref
  | .u8 => Int
  | .op => Opn

abbrev V := AV KT ElT

def encRef (r : Ref) : List V := [.int .i64 r.kind, .int .u64 r.addr, .bool r.out]
def encVal (v : Val) : List V := [.int .i64 v.type, .int .u64 v.bits, .int .i64 v.ref.kind, .int .u64 v.ref.addr, .bool v.ref.out]
def slV : Option (List Val) → V
  | some l => .imm .value l
  | none => .nils

def slR : Option (List Ref) → V
  | some l => .imm .ref l
  | none => .nils

def encT : (k : KT) → ElT k → List V
  | .value, v => encVal v
  | .ref, r => encRef r
  | .u8, n => [.int .u8 n]
  | .op, o => [.int .i64 o.what, .int .u64 o.at_, .int .u64 o.to, .int .u64 o.n, .int .u64 o.most, .int .i64 o.v.type, .int .u64 o.v.bits, .int .i64 o.v.ref.kind, .int .u64 o.v.ref.addr, .bool o.v.ref.out, slV o.l, slR o.r]

def uncVal : List V → Option Val
  | [.int .i64 a, .int .u64 b, .int .i64 c, .int .u64 d, .bool e] => some ⟨a, b, ⟨c, d, e⟩⟩
  | _ => none

def uncRef : List V → Option Ref
  | [.int .i64 c, .int .u64 d, .bool e] => some ⟨c, d, e⟩
  | _ => none

def uncU8 : List V → Option Int
  | [.int .u8 n] => some n
  | _ => none

def uncT : (k : KT) → List V → Option (ElT k)
  | .value, vs => uncVal vs
  | .ref, vs => uncRef vs
  | .u8, vs => uncU8 vs
  | .op, _ => none

def zeroT : (k : KT) → ElT k
  | .value => ⟨0, 0, ⟨0, 0, false⟩⟩
  | .ref => ⟨0, 0, false⟩
  | .u8 => (0 : Int)
  | .op => ⟨0, 0, 0, 0, 0, ⟨0, 0, ⟨0, 0, false⟩⟩, none, none⟩

noncomputable def S : Seat KT ElT where
  P := Try.prog
  dec := inferInstance
  size | .value => 5 | .ref => 3 | .u8 => 1 | .op => 12
  bytes | .value => 40 | .ref => 24 | .u8 => 1 | .op => 128
  ty | .value => 26 | .ref => 24 | .u8 => 5 | .op => 72
  enc := encT
  unc := uncT
  zero := zeroT
  kd | 26 => some .value | 24 => some .ref | 5 => some .u8 | 72 => some .op | _ => none
  flat | .op => false | _ => true

theorem unc_value {vs : List V} {x : Val} (h : uncVal vs = some x) : encVal x = vs := by
  unfold uncVal at h
  split at h
  · cases h; rfl
  · cases h

theorem unc_ref {vs : List V} {x : Ref} (h : uncRef vs = some x) : encRef x = vs := by
  unfold uncRef at h
  split at h
  · cases h; rfl
  · cases h

theorem unc_u8 {vs : List V} {x : Int} (h : uncU8 vs = some x) : [.int .u8 x] = vs := by
  unfold uncU8 at h
  split at h
  · cases h; rfl
  · cases h

theorem allP {p : V → Bool} {l : List V} (h : l.all p = true) (u : V) (hu : u ∈ l) : p u = true := List.all_eq_true.1 h u hu

theorem info_of {t sz by_ : Nat} {zs : List V} (h : (Try.prog.info? t).map (fun i => (i.size, i.bytes, i.zero.map fun z => (z.cells.size, (z.cells.toList.mapM constAV : Option (List V))))) = some (sz, by_, some (sz, some zs))) :
    ∃ i z, Try.prog.info? t = some i ∧ i.size = sz ∧ i.zero = some z ∧ z.cells.size = sz ∧ i.bytes = by_ ∧ (z.cells.toList.mapM constAV : Option (List V)) = some zs := by
  cases hi : Try.prog.info? t with
  | none => rw [hi] at h; simp at h
  | some i =>
    rw [hi] at h
    simp only [Option.map_some, Option.some.injEq, Prod.mk.injEq] at h
    obtain ⟨h1, h2, h3⟩ := h
    cases hz : i.zero with
    | none => rw [hz] at h3; simp at h3
    | some z =>
      rw [hz] at h3
      simp only [Option.map_some, Option.some.injEq, Prod.mk.injEq] at h3
      exact ⟨i, z, rfl, h1, hz, h3.1, h2, h3.2⟩

theorem ok : Ok S where
  enc_len k x := by cases k <;> rfl
  unc_enc k vs x h := by
    cases k
    · exact unc_value h
    · exact unc_ref h
    · exact unc_u8 h
    · exact absurd h (by simp [S, uncT])
  one k x u h := by
    cases k
    case op => obtain ⟨_, _, _, _, _, _, l, r⟩ := x; cases l <;> cases r <;> exact allP (p := AV.one) rfl u h
    all_goals exact allP (p := AV.one) rfl u h
  free k x u h := by
    cases k
    case op => obtain ⟨_, _, _, _, _, _, l, r⟩ := x; cases l <;> cases r <;> exact allP (p := AV.free) rfl u h
    all_goals exact allP (p := AV.free) rfl u h
  flat k x h u hu := by cases k <;> first | exact allP (p := pure1) rfl u hu | cases h
  pos k := by cases k <;> decide
  info k := by
    cases k
    · exact info_of (by kernel_rfl)
    · exact info_of (by kernel_rfl)
    · exact info_of (by kernel_rfl)
    · exact info_of (by kernel_rfl)
  kd t k h := by
    simp only [S] at h
    split at h <;> first | (cases h; rfl) | (cases h; done)
  mixed := by kernel_rfl
  keep _ _ _ h := h

end Sh
end Go.Proofs.Ytanonfilhgkkcaa
