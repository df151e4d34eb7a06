/- The shadow machine, part 19: a function's shadow, as a fact to compute. -/
import Derived.Test.YtomdfaelgcefdaaGreatDoorSh18
namespace Go.Proofs.YtomdfaelgcefdaaGreatDoor
open Go
namespace Sh
variable {K : Type} {El : K → Type}

/-- A function's code, its results, its slots. -/
structure FC (K : Type) (El : K → Type) where
  ac : AC K El
  res : List (Nat × Option (Nat × Bool))
  n : Nat

def shade (S : Seat K El) (f : Nat) (kf : List Nat) (hs : List (List Nat)) : Option (FC K El) :=
  (S.P.funcs[f]?).bind fun fn => fn.body.bind fun c => (compile S fn.ntmps kf 200 hs c).bind fun a => (cRes S.P fn.results.toList).map fun res => ⟨a.1, res, fn.ntmps⟩

theorem spec_of {S : Seat K El} (ok : Ok S) {f : Nat} {kf : List Nat} {hs : List (List Nat)} {F : FC K El} (hc : shade S f kf hs = some F) {vs : List (AV K El)} {H : Heap K El} {R : AV K El → Heap K El → Prop} (hargs : vs.length ≤ F.n)
    (h : vc S H.length F.ac ⟨entryF vs, H⟩ (endVC S H.length F.res R)) : Spec S f vs H R := by
  unfold shade at hc
  cases hf : S.P.funcs[f]? with
  | none => rw [hf] at hc; cases hc
  | some fn =>
    rw [hf] at hc
    simp only [Option.bind_some] at hc
    cases hb : fn.body with
    | none => rw [hb] at hc; cases hc
    | some c =>
      rw [hb] at hc
      simp only [Option.bind_some] at hc
      cases ha : compile S fn.ntmps kf 200 hs c with
      | none => rw [ha] at hc; cases hc
      | some a =>
        rw [ha] at hc
        simp only [Option.bind_some] at hc
        cases hr : cRes S.P fn.results.toList with
        | none => rw [hr] at hc; cases hc
        | some res =>
          rw [hr] at hc
          cases hc
          exact spec_of_vc ok hf hb (ac := a.1) (hs' := a.2) ha hr hargs h

end Sh
end Go.Proofs.YtomdfaelgcefdaaGreatDoor
