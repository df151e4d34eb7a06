/- strings.Fields as a contract over the shadow machine, from the shelf's contract. -/
import Derived.Test.YtoegodeglgeomaaDoorUSeat
import Derived.Test.YtoegodeglgeomaaDoorSh22
import Derived.Test.YtoegodeglgeomaaDoorShelf
namespace Go.Proofs.YtoegodeglgeomaaDoor
open Go
namespace Sh

def fieldsB (s : ByteArray) : List ByteArray := (Lib.fields s.data.toList).map fun l => ⟨l.toArray⟩

theorem c_fields (s : ByteArray) (hs : s.size < 4294967281) (ha : ∀ (j : Nat) b, s.data.toList[j]? = some b → b.toNat < 128) (hl : (fieldsB s).length ≤ 1000000) :
    SpecD S 41 [.str s] [] (.own .str 0 0 (fieldsB s).length .whole) [.row .str (fieldsB s)] := by
  intro E w args hE hsz hva
  obtain ⟨v, hv1, hv2⟩ := hva 0 (.str s) rfl
  have hv : v = .string s := VR.str_inv hv2
  subst hv
  obtain rfl : args = #[.string s] := by
    have h1 : args.size = 1 := hsz
    refine Array.ext (by simp [h1]) fun i hi1 hi2 => ?_
    obtain rfl : i = 0 := by simp at hi2; omega
    have := Array.getElem?_eq_some_iff.1 hv1
    simpa using this.2
  refine (Tryd.strings_Fields s w hs ha hE.gl.inv.1).mono ?_
  rintro e w' ⟨rfl, rfl⟩
  have hcells : CellsOf S E w .str (fieldsB s) ((Lib.fields s.data.toList).map fun l => Value.string ⟨l.toArray⟩) := by
    refine ⟨by simp [fieldsB, S], fun j y hy t u hu => ?_⟩
    have hj := (List.getElem?_eq_some_iff.1 hy).1
    simp only [fieldsB, List.getElem?_map, Option.map_eq_some_iff] at hy
    obtain ⟨l, hl1, rfl⟩ := hy
    have ht : t = 0 := by
      have := (List.getElem?_eq_some_iff.1 hu).1
      simp [S, encT, enc_str] at this
      omega
    subst ht
    have hu' : u = .str ⟨l.toArray⟩ := by simpa [S, encT, enc_str] using hu.symm
    subst hu'
    exact ⟨_, by simp [S, hl1], VR.str _⟩
  obtain ⟨E1, h1, h2, h3⟩ := app_new ok hE hcells (rest := #[]) (cap := (fieldsB s).length) (Nat.le_refl _) (by unfold maxLen; omega) (by simp [fieldsB, S]) (w1 := w.alloc (.cells ((Lib.fields s.data.toList).map fun l => Value.string ⟨l.toArray⟩).toArray 9)) (by simp; rfl) rfl rfl rfl
  refine ⟨_, _, E1, _, rfl, ⟨rfl, rfl⟩, ?_, h1, h2⟩
  have : (Lib.fields s.data.toList).length = (fieldsB s).length := by simp [fieldsB]
  rw [this]
  exact h3

end Sh
end Go.Proofs.YtoegodeglgeomaaDoor
