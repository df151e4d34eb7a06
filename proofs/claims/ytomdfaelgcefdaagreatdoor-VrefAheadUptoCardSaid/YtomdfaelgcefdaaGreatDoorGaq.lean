/- HeapR. -/
import Derived.Test.YtomdfaelgcefdaaGreatDoorGap
set_option maxRecDepth 100000
set_option maxHeartbeats 64000000
namespace Go.Proofs
open Go.RowKit Go.Shelf
def leftN (l : Array Bool) : Nat := l.toList.count false
theorem count_set1 : ∀ (l : List Bool) (i : Nat),l[i]? = some false → (l.set i true).count false + 1 = l.count false
 | [],i,h => by simp at h
 | x :: l,0,h => by
  simp only [List.getElem?_cons_zero,Option.some.injEq] at h;subst h;simp
 | x :: l,i + 1,h => by
  have := count_set1 l i (by simpa using h);simp only [List.set_cons_succ,List.count_cons];omega
theorem leftN_set {l : Array Bool} {i : Nat} (h : l.getD i true = false) : leftN (l.setIfInBounds i true) + 1 = leftN l := by
 have hi : l.toList[i]? = some false := by
  cases hq : l.toList[i]? with
  | none =>
   have : l[i]? = none := by simpa using hq
   rw [Array.getD_eq_getD_getElem?,this] at h;cases h
  | some b =>
   have : l[i]? = some b := by simpa using hq
   rw [Array.getD_eq_getD_getElem?,this] at h;simp at h;rw [h]
 have := count_set1 _ _ hi;unfold leftN;rw [Array.toList_setIfInBounds];exact this
theorem any_inv {F : Fence} {n : Nat} {P : Program} {ops : Array Oper} {Q : Exit → Act → World → Prop} (Inv : Array Bool → Act → World → Prop)
    (hstep : ∀ i listed a w,Inv listed a w → i ∈ Region.ready .any ops listed → wpOpIn F n P ops Q i (fun a' w' => Inv (listed.setIfInBounds i true) a' w') a w)
    (hdone : ∀ listed a w,Inv listed a w → Region.ready .any ops listed = [] → Q .normal a w) (hsz : ∀ listed a w,Inv listed a w → leftN listed = 0 → Region.ready .any ops listed = []) :
    ∀ fuel listed a w,leftN listed ≤ fuel → Inv listed a w → wpAnyIn F n P .any ops Q fuel listed a w
 | 0,listed,a,w,hl,hi => by
  have := hsz listed a w hi (by omega);exact ⟨this,hdone _ _ _ hi this⟩
 | fuel + 1,listed,a,w,hl,hi => ⟨hdone _ _ _ hi,fun i hr => by
  refine wpOpIn_mono (fun a' w' h => ?_) (hstep i listed a w hi hr)
  have hf : listed.getD i true = false := by
   simp only [Region.ready,List.mem_filter,Bool.and_eq_true,Bool.not_eq_true'] at hr;exact hr.2.1
  have := leftN_set hf
  exact any_inv Inv hstep hdone hsz fuel _ _ _ (by omega) h⟩
end Go.Proofs
