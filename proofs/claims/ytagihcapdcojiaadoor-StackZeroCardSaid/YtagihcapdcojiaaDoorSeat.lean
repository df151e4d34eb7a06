/- MADE BY PROGRAM (seat.py): the element types of this seat, and that they are what the program says. -/
import Derived.Test.YtagihcapdcojiaaDoorSh18
import Derived.Test.YtagihcapdcojiaaDoorProg
namespace Go.Proofs.YtagihcapdcojiaaDoor
open Go
namespace Sh

structure El_vt where
  f0 : Int
  f1 : Bool
  f2 : Int

inductive KT where
  | vt
  | boo
  | int
  deriving DecidableEq

abbrev ElT : KT → Type
  | .vt => El_vt
  | .boo => Bool
  | .int => Int

abbrev V := AV KT ElT

def enc_vt (x : El_vt) : List V := [.int .i64 x.f0, .bool x.f1, .int .i64 x.f2]

def unc_vt : List V → Option El_vt
  | [.int .i64 a0, .bool a1, .int .i64 a2] => some ⟨a0, a1, a2⟩
  | _ => none

theorem unc_enc_vt {vs : List V} {x : ElT .vt} (h : unc_vt vs = some x) : enc_vt x = vs := by
  unfold unc_vt at h
  split at h
  · cases h; rfl
  · cases h

def enc_boo (x : Bool) : List V := [.bool x]

def unc_boo : List V → Option Bool
  | [.bool a] => some a
  | _ => none

theorem unc_enc_boo {vs : List V} {x : ElT .boo} (h : unc_boo vs = some x) : enc_boo x = vs := by
  unfold unc_boo at h
  split at h
  · cases h; rfl
  · cases h

def enc_int (x : Int) : List V := [.int .i64 x]

def unc_int : List V → Option Int
  | [.int .i64 a] => some a
  | _ => none

theorem unc_enc_int {vs : List V} {x : ElT .int} (h : unc_int vs = some x) : enc_int x = vs := by
  unfold unc_int at h
  split at h
  · cases h; rfl
  · cases h

def encT : (k : KT) → ElT k → List V
  | .vt, x => enc_vt x
  | .boo, x => enc_boo x
  | .int, x => enc_int x

def uncT : (k : KT) → List V → Option (ElT k)
  | .vt, vs => unc_vt vs
  | .boo, vs => unc_boo vs
  | .int, vs => unc_int vs

def zeroT : (k : KT) → ElT k
  | .vt => ⟨0, false, 0⟩
  | .boo => (false : Bool)
  | .int => (0 : Int)

noncomputable def S : Seat KT ElT where
  P := Tryd.prog
  dec := inferInstance
  size | .vt => 3 | .boo => 1 | .int => 1
  bytes | .vt => 24 | .boo => 1 | .int => 8
  ty | .vt => 44 | .boo => 4 | .int => 3
  enc := encT
  unc := uncT
  zero := zeroT
  kd | 44 => some .vt | 4 => some .boo | 3 => some .int | _ => none
  flat _ := true

theorem allP {p : V → Bool} {l : List V} (h : l.all p = true) (u : V) (hu : u ∈ l) : p u = true := List.all_eq_true.1 h u hu

theorem info_of {t sz by_ : Nat} {zs : List V} (h : (Tryd.prog.info? t).map (fun i => (i.size, i.bytes, i.zero.map fun z => (z.cells.size, (z.cells.toList.mapM constAV : Option (List V))))) = some (sz, by_, some (sz, some zs))) :
    ∃ i z, Tryd.prog.info? t = some i ∧ i.size = sz ∧ i.zero = some z ∧ z.cells.size = sz ∧ i.bytes = by_ ∧ (z.cells.toList.mapM constAV : Option (List V)) = some zs := by
  cases hi : Tryd.prog.info? t with
  | none => rw [hi] at h; simp at h
  | some i =>
    rw [hi] at h
    simp only [Option.map_some, Option.some.injEq, Prod.mk.injEq] at h
    obtain ⟨h1, h2, h3⟩ := h
    cases hz : i.zero with
    | none => rw [hz] at h3; simp at h3
    | some z =>
      rw [hz] at h3
      simp only [Option.map_some, Option.some.injEq, Prod.mk.injEq] at h3
      exact ⟨i, z, rfl, h1, hz, h3.1, h2, h3.2⟩

theorem ok : Ok S where
  enc_len k x := by cases k <;> rfl
  unc_enc k vs x h := by
    cases k
    · exact unc_enc_vt h
    · exact unc_enc_boo h
    · exact unc_enc_int h
  one k x u h := by cases k <;> exact allP (p := AV.one) rfl u h
  free k x u h := by cases k <;> exact allP (p := AV.free) rfl u h
  flat k x _ u hu := by cases k <;> exact allP (p := pure1) rfl u hu
  pos k := by cases k <;> decide
  info k := by
    cases k
    · exact info_of (by kernel_rfl)
    · exact info_of (by kernel_rfl)
    · exact info_of (by kernel_rfl)
  kd t k h := by
    simp only [S] at h
    split at h <;> first | (cases h; rfl) | (cases h; done)
  mixed := by kernel_rfl

end Sh
end Go.Proofs.YtagihcapdcojiaaDoor
