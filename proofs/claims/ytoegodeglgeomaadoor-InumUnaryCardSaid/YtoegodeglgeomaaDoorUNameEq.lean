/- The program's names are the reference's. -/
import Derived.Test.YtoegodeglgeomaaDoorUNames
namespace Go.Proofs.YtoegodeglgeomaaDoor
open Go
namespace Sh

theorem strEq_eq {a b : ByteArray} (h : strEq a b = true) : a = b := by
  rw [strEq, bytesEq_iff, beq_iff_eq] at h
  have h2 : a.data = b.data := by
    cases ha : a.data; cases hb : b.data
    rw [ha, hb] at h
    simpa using h
  cases a; cases b
  simpa using h2

theorem names_in : (List.range 128).all (fun n => strEq (findL (69 + (n : Int)) GS).1 (refL (69 + (n : Int)))) = true := by kernel_rfl

theorem findL_low {op : Int} (h : op < 69) : findL op GS = (⟨#[]⟩, false) := by
  have key : ∀ (l : List El_group), (∀ g ∈ l, 69 ≤ g.f0) → findL op l = (⟨#[]⟩, false) := by
    intro l
    induction l with
    | nil => intro _; rfl
    | cons g r ih =>
      intro hg
      have := hg g (by simp)
      rw [findL, if_neg (by omega), ih fun x hx => hg x (by simp [hx])]
  refine key GS ?_
  have : GS.all (fun g => decide (69 ≤ g.f0)) = true := by kernel_rfl
  exact fun g hg => of_decide_eq_true (List.all_eq_true.1 this g hg)

theorem findL_high {op : Int} (h : 196 < op) : findL op GS = (⟨#[]⟩, false) := by
  have key : ∀ (l : List El_group), (∀ g ∈ l, g.f0 + (fieldsB g.f2).length ≤ 197) → findL op l = (⟨#[]⟩, false) := by
    intro l
    induction l with
    | nil => intro _; rfl
    | cons g r ih =>
      intro hg
      have := hg g (by simp)
      rw [findL, if_neg (by omega), ih fun x hx => hg x (by simp [hx])]
  refine key GS ?_
  have : GS.all (fun g => decide (g.f0 + (fieldsB g.f2).length ≤ 197)) = true := by kernel_rfl
  exact fun g hg => of_decide_eq_true (List.all_eq_true.1 this g hg)

theorem refL_out {op : Int} (h : op < 69 ∨ 196 < op) : refL op = ⟨#[]⟩ := by
  unfold refL
  rw [if_neg (by omega), if_neg (by omega), if_neg (by omega), if_neg (by omega), if_neg (by omega), if_neg (by omega), if_neg (by omega), if_neg (by omega)]

theorem names_eq (op : Int) : (findL op GS).1 = refL op := by
  by_cases h1 : op < 69
  · rw [findL_low h1, refL_out (.inl h1)]
  · by_cases h2 : 196 < op
    · rw [findL_high h2, refL_out (.inr h2)]
    · have h := List.all_eq_true.1 names_in (op - 69).toNat (by simp; omega)
      have e : (69 : Int) + ((op - 69).toNat : Int) = op := by omega
      rw [e] at h
      exact strEq_eq h

end Sh
end Go.Proofs.YtoegodeglgeomaaDoor
