/- MADE BY PROGRAM (seat.py): the element types of this seat, and that they are what the program says. -/
import Derived.Test.YtoegodeglgeomaaDoorSh18
import Derived.Test.YtoegodeglgeomaaDoorProg
import Derived.Lib.LaidTab
import Derived.Lib.Space
import Derived.Lib.TrailingZeros
namespace Go.Proofs.YtoegodeglgeomaaDoor
open Go
namespace Sh

structure El_group where
  f0 : Int
  f1 : Bool
  f2 : ByteArray

inductive KT where
  | group
  | str
  | int
  deriving DecidableEq

abbrev ElT : KT → Type
  | .group => El_group
  | .str => ByteArray
  | .int => Int

abbrev V := AV KT ElT

def enc_group (x : El_group) : List V := [.int .i64 x.f0, .bool x.f1, .str x.f2]

def unc_group : List V → Option El_group
  | [.int .i64 a0, .bool a1, .str a2] => some ⟨a0, a1, a2⟩
  | _ => none

theorem unc_enc_group {vs : List V} {x : ElT .group} (h : unc_group vs = some x) : enc_group x = vs := by
  unfold unc_group at h
  split at h
  · cases h; rfl
  · cases h

def enc_str (x : ByteArray) : List V := [.str x]

def unc_str : List V → Option ByteArray
  | [.str a] => some a
  | _ => none

theorem unc_enc_str {vs : List V} {x : ElT .str} (h : unc_str vs = some x) : enc_str x = vs := by
  unfold unc_str at h
  split at h
  · cases h; rfl
  · cases h

def enc_int (x : Int) : List V := [.int .i64 x]

def unc_int : List V → Option Int
  | [.int .i64 a] => some a
  | _ => none

theorem unc_enc_int {vs : List V} {x : ElT .int} (h : unc_int vs = some x) : enc_int x = vs := by
  unfold unc_int at h
  split at h
  · cases h; rfl
  · cases h

def encT : (k : KT) → ElT k → List V
  | .group, x => enc_group x
  | .str, x => enc_str x
  | .int, x => enc_int x

def uncT : (k : KT) → List V → Option (ElT k)
  | .group, vs => unc_group vs
  | .str, vs => unc_str vs
  | .int, vs => unc_int vs

def zeroT : (k : KT) → ElT k
  | .group => ⟨0, false, ByteArray.empty⟩
  | .str => (ByteArray.empty : ByteArray)
  | .int => (0 : Int)

def db64 : List Int := Lib.deBruijn64tab.map Int.ofNat
def db32 : List Int := Lib.deBruijn32tab.map Int.ofNat

noncomputable def S : Seat KT ElT where
  P := Tryd.prog
  dec := inferInstance
  size | .group => 3 | .str => 1 | .int => 1
  bytes | .group => 32 | .str => 16 | .int => 8
  ty | .group => 65 | .str => 9 | .int => 3
  enc := encT
  unc := uncT
  zero := zeroT
  kd | 65 => some .group | 9 => some .str | 3 => some .int | _ => none
  flat _ := true
  glb := [0, 1, 2]
  inv w := Lib.TabIs Tryd.prog w "strings.asciiSpace" .u8 Lib.asciiSpaceTab ∧ Lib.TabIs Tryd.prog w "math/bits.deBruijn64tab" .u8 db64 ∧ Lib.TabIs Tryd.prog w "math/bits.deBruijn32tab" .u8 db32

theorem allP {p : V → Bool} {l : List V} (h : l.all p = true) (u : V) (hu : u ∈ l) : p u = true := List.all_eq_true.1 h u hu

theorem info_of {t sz by_ : Nat} {zs : List V} (h : (Tryd.prog.info? t).map (fun i => (i.size, i.bytes, i.zero.map fun z => (z.cells.size, (z.cells.toList.mapM constAV : Option (List V))))) = some (sz, by_, some (sz, some zs))) :
    ∃ i z, Tryd.prog.info? t = some i ∧ i.size = sz ∧ i.zero = some z ∧ z.cells.size = sz ∧ i.bytes = by_ ∧ (z.cells.toList.mapM constAV : Option (List V)) = some zs := by
  cases hi : Tryd.prog.info? t with
  | none => rw [hi] at h; simp at h
  | some i =>
    rw [hi] at h
    simp only [Option.map_some, Option.some.injEq, Prod.mk.injEq] at h
    obtain ⟨h1, h2, h3⟩ := h
    cases hz : i.zero with
    | none => rw [hz] at h3; simp at h3
    | some z =>
      rw [hz] at h3
      simp only [Option.map_some, Option.some.injEq, Prod.mk.injEq] at h3
      exact ⟨i, z, rfl, h1, hz, h3.1, h2, h3.2⟩

theorem ok : Ok S where
  enc_len k x := by cases k <;> rfl
  unc_enc k vs x h := by
    cases k
    · exact unc_enc_group h
    · exact unc_enc_str h
    · exact unc_enc_int h
  one k x u h := by cases k <;> exact allP (p := AV.one) rfl u h
  free k x u h := by cases k <;> exact allP (p := AV.free) rfl u h
  flat k x _ u hu := by cases k <;> exact allP (p := pure1) rfl u hu
  pos k := by cases k <;> decide
  info k := by
    cases k
    · exact info_of (by kernel_rfl)
    · exact info_of (by kernel_rfl)
    · exact info_of (by kernel_rfl)
  kd t k h := by
    simp only [S] at h
    split at h <;> first | (cases h; rfl) | (cases h; done)
  mixed := by kernel_rfl
  keep w w' hh h := by
    have hg : Tryd.prog.globalNamed "strings.asciiSpace" = some 0 := by kernel_rfl
    have hg1 : Tryd.prog.globalNamed "math/bits.deBruijn64tab" = some 1 := by kernel_rfl
    have hg2 : Tryd.prog.globalNamed "math/bits.deBruijn32tab" = some 2 := by kernel_rfl
    have h0 := hh 0 (by simp [S])
    have h1 := hh 1 (by simp [S])
    have h2 := hh 2 (by simp [S])
    simp only [S, Lib.TabIs, World.var?, hg, hg1, hg2, Option.bind_some] at h ⊢
    rw [h0, h1, h2]
    exact h

end Sh
end Go.Proofs.YtoegodeglgeomaaDoor
