/- MADE BY PROGRAM (seat.py): the element types of this seat, and that they are what the program says. -/
import Derived.Test.YtgdljnmlmpecmaaGreatDoorSh18
import Derived.Test.YtgdljnmlmpecmaaGreatDoorProg
namespace Go.Proofs.YtgdljnmlmpecmaaGreatDoor
open Go
namespace Sh

inductive KT where
  | int
  deriving DecidableEq

abbrev ElT : KT → Type
  | .int => Int

abbrev V := AV KT ElT

def enc_int (x : Int) : List V := [.int .i64 x]

def unc_int : List V → Option Int
  | [.int .i64 a] => some a
  | _ => none

theorem unc_enc_int {vs : List V} {x : ElT .int} (h : unc_int vs = some x) : enc_int x = vs := by
  unfold unc_int at h
  split at h
  · cases h; rfl
  · cases h

def encT : (k : KT) → ElT k → List V
  | .int, x => enc_int x

def uncT : (k : KT) → List V → Option (ElT k)
  | .int, vs => unc_int vs

def zeroT : (k : KT) → ElT k
  | .int => (0 : Int)

noncomputable def S : Seat KT ElT where
  P := Tryz.prog
  dec := inferInstance
  size | .int => 1
  bytes | .int => 8
  ty | .int => 3
  enc := encT
  unc := uncT
  zero := zeroT
  kd | 3 => some .int | _ => none
  flat _ := true

theorem allP {p : V → Bool} {l : List V} (h : l.all p = true) (u : V) (hu : u ∈ l) : p u = true := List.all_eq_true.1 h u hu

theorem info_of {t sz by_ : Nat} {zs : List V} (h : (Tryz.prog.info? t).map (fun i => (i.size, i.bytes, i.zero.map fun z => (z.cells.size, (z.cells.toList.mapM constAV : Option (List V))))) = some (sz, by_, some (sz, some zs))) :
    ∃ i z, Tryz.prog.info? t = some i ∧ i.size = sz ∧ i.zero = some z ∧ z.cells.size = sz ∧ i.bytes = by_ ∧ (z.cells.toList.mapM constAV : Option (List V)) = some zs := by
  cases hi : Tryz.prog.info? t with
  | none => rw [hi] at h; simp at h
  | some i =>
    rw [hi] at h
    simp only [Option.map_some, Option.some.injEq, Prod.mk.injEq] at h
    obtain ⟨h1, h2, h3⟩ := h
    cases hz : i.zero with
    | none => rw [hz] at h3; simp at h3
    | some z =>
      rw [hz] at h3
      simp only [Option.map_some, Option.some.injEq, Prod.mk.injEq] at h3
      exact ⟨i, z, rfl, h1, hz, h3.1, h2, h3.2⟩

theorem ok : Ok S where
  enc_len k x := by cases k <;> rfl
  unc_enc k vs x h := by
    cases k
    · exact unc_enc_int h
  one k x u h := by cases k <;> exact allP (p := AV.one) rfl u h
  free k x u h := by cases k <;> exact allP (p := AV.free) rfl u h
  flat k x _ u hu := by cases k <;> exact allP (p := pure1) rfl u hu
  pos k := by cases k <;> decide
  info k := by
    cases k
    · exact info_of (by kernel_rfl)
  kd t k h := by
    simp only [S] at h
    split at h <;> first | (cases h; rfl) | (cases h; done)
  mixed := by kernel_rfl
  keep _ _ _ h := h

end Sh
end Go.Proofs.YtgdljnmlmpecmaaGreatDoor
