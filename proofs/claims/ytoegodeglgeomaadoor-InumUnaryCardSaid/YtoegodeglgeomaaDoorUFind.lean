/- What the program's operators on whole numbers are called: the names, found by an opcode. -/
import Derived.Test.YtoegodeglgeomaaDoorUShadeA
import Derived.Test.YtoegodeglgeomaaDoorUFields
namespace Go.Proofs.YtoegodeglgeomaaDoor
open Go
namespace Sh

theorem wrap_i64 {n : Int} (h0 : -9223372036854775808 ≤ n) (h1 : n ≤ 9223372036854775807) : IntKind.i64.wrap n = n := IntWalk.i64_in _ ⟨h0, h1⟩
theorem wrap_u64 {n : Int} (h0 : 0 ≤ n) (h1 : n ≤ 18446744073709551615) : IntKind.u64.wrap n = n := IntWalk.u64_in _ ⟨h0, h1⟩

def sT : ByteArray := ⟨#[101, 113, 122, 32, 101, 113, 32, 110, 101, 32, 108, 116, 95, 115, 32, 108, 116, 95, 117, 32, 103, 116, 95, 115, 32, 103, 116, 95, 117, 32, 108, 101, 95, 115, 32, 108, 101, 95, 117, 32, 103, 101, 95, 115, 32, 103, 101, 95, 117]⟩
def sS : ByteArray := ⟨#[99, 108, 122, 32, 99, 116, 122, 32, 112, 111, 112, 99, 110, 116, 32, 97, 100, 100, 32, 115, 117, 98, 32, 109, 117, 108, 32, 100, 105, 118, 95, 115, 32, 100, 105, 118, 95, 117, 32, 114, 101, 109, 95, 115, 32, 114, 101, 109, 95, 117, 32, 97, 110, 100, 32, 111, 114, 32, 120, 111, 114, 32, 115, 104, 108, 32, 115, 104, 114, 95, 115, 32, 115, 104, 114, 95, 117, 32, 114, 111, 116, 108, 32, 114, 111, 116, 114]⟩
def sW : ByteArray := ⟨#[119, 114, 97, 112, 95, 105, 54, 52]⟩
def sX : ByteArray := ⟨#[101, 120, 116, 101, 110, 100, 95, 105, 51, 50, 95, 115, 32, 101, 120, 116, 101, 110, 100, 95, 105, 51, 50, 95, 117]⟩
def s8 : ByteArray := ⟨#[101, 120, 116, 101, 110, 100, 56, 95, 115, 32, 101, 120, 116, 101, 110, 100, 49, 54, 95, 115]⟩
def s8l : ByteArray := ⟨#[101, 120, 116, 101, 110, 100, 56, 95, 115, 32, 101, 120, 116, 101, 110, 100, 49, 54, 95, 115, 32, 101, 120, 116, 101, 110, 100, 51, 50, 95, 115]⟩

def GS : List El_group := [⟨69, false, sT⟩, ⟨80, true, sT⟩, ⟨103, false, sS⟩, ⟨121, true, sS⟩, ⟨167, true, sW⟩, ⟨172, false, sX⟩, ⟨192, false, s8⟩, ⟨194, true, s8l⟩]

def gOk (g : El_group) : Bool := decide (0 ≤ g.f0) && decide (g.f0 ≤ 255) && decide ((fieldsB g.f2).length ≤ 100) && g.f2.data.toList.all (fun b => decide (b.toNat < 128)) && decide (g.f2.size < 1000)

theorem g_ok : GS.all gOk = true := by kernel_rfl

/-- The name of an opcode, and whether it is of 64 bits. -/
def findL (op : Int) : List El_group → ByteArray × Bool
  | [] => (⟨#[]⟩, false)
  | g :: r => if g.f0 ≤ op ∧ op < g.f0 + (fieldsB g.f2).length then ((fieldsB g.f2).getD (op - g.f0).toNat ⟨#[]⟩, g.f1) else findL op r

set_option maxRecDepth 100000 in
theorem c_groups : SpecD S 40 [] [] (.own .group 0 0 8 .full) [.row .group GS] := by
  refine specE ok sh40 rfl ?_
  conv => whnf
  exact end_of [0] (by rfl) (by rfl) (by rfl) (by exact ⟨rfl, rfl⟩)

def fV (op j : Int) : List V := [.int .i64 op, .own .group 0 0 8 .full, .int .i64 8, .int .i64 j]

set_option maxRecDepth 100000 in
theorem c_find (op : Int) : SpecD S 26 [.int .i64 op] [] (.tup [.str (findL op GS).1, .bool (findL op GS).2]) [] := by
  refine specE ok sh26 rfl ?_
  conv => whnf
  refine call_of [] (c_groups) (by rfl) (by rfl) ?_
  conv => whnf
  refine loop_of [] [0] (fun vs H => ∃ j : Nat, j ≤ 8 ∧ findL op (GS.drop j) = findL op GS ∧ vs = fV op j ∧ H = [.row .group GS])
    (fun vs _ => match vs with | [_, _, _, .int _ j] => 8 - j.toNat | _ => 0) (by rfl) (by rfl) (by rfl) (by rfl) ⟨0, by omega, rfl, rfl, rfl⟩ ?_
  rintro vs H1 ⟨j, hj, hf, rfl, rfl⟩
  conv => whnf
  cases hd : decide ((j : Int) < 8)
  · conv => whnf
    have := of_decide_eq_false hd
    obtain rfl : j = 8 := by omega
    rw [← hf]
    exact end_of [] (by rfl) (by rfl) (by rfl) (by exact ⟨rfl, rfl⟩)
  · conv => whnf
    have hlt := of_decide_eq_true hd
    have hj' : j < GS.length := by show j < 8; omega
    have hw : IntKind.i64.wrap ((j : Int) + 1) = ((j + 1 : Nat) : Int) := wrap_i64 (by omega) (by omega)
    have hg := List.all_eq_true.1 g_ok _ (List.getElem_mem hj')
    have hdrop := List.drop_eq_getElem_cons hj'
    refine ⟨rfl, by omega, by omega, ?_⟩
    conv => whnf
    refine ⟨rfl, (by show 0 + Int.toNat (j : Int) < 8; omega), (by decide : 0 + 3 ≤ 3), ?_⟩
    rw [show GS.getD (0 + Int.toNat (j : Int)) (S.zero .group) = GS[j] by rw [Nat.zero_add, Int.toNat_natCast]; simp [hj']]
    generalize GS[j] = g at hg hdrop
    simp only [gOk, Bool.and_eq_true, decide_eq_true_eq, List.all_eq_true] at hg
    obtain ⟨⟨⟨⟨g1, g2⟩, g3⟩, g4⟩, g5⟩ := hg
    conv => whnf
    refine call_of [] (c_fields g.f2 (by omega) (fun j b hb => g4 b (List.mem_of_getElem? hb)) (by omega)) (by rfl) (by rfl) ?_
    conv => whnf
    have hwl : IntKind.i64.wrap (g.f0 + ((fieldsB g.f2).length : Int)) = g.f0 + ((fieldsB g.f2).length : Int) := wrap_i64 (by omega) (by omega)
    have hfl : findL op (GS.drop j) = if g.f0 ≤ op ∧ op < g.f0 + (fieldsB g.f2).length then ((fieldsB g.f2).getD (op - g.f0).toNat ⟨#[]⟩, g.f1) else findL op (GS.drop (j + 1)) := by rw [hdrop]; rfl
    cases h2 : decide (g.f0 ≤ op)
    · conv => whnf
      have h2' := of_decide_eq_false h2
      rw [if_neg (by omega)] at hfl
      refine ⟨[0], [], relo_of [0] (by rfl) (by rfl), ?_⟩
      refine ⟨⟨j + 1, by omega, by rw [← hfl]; exact hf, congrArg (fV op) hw, rfl⟩, ?_⟩
      show 8 - (IntKind.i64.wrap ((j : Int) + 1)).toNat < 8 - (j : Int).toNat
      rw [hw]; omega
    · conv => whnf
      have h2' := of_decide_eq_true h2
      rw [hwl]
      cases h3 : decide (op < g.f0 + ((fieldsB g.f2).length : Int))
      · conv => whnf
        have h3' := of_decide_eq_false h3
        rw [if_neg (by omega)] at hfl
        refine ⟨[0], [], relo_of [0] (by rfl) (by rfl), ?_⟩
        refine ⟨⟨j + 1, by omega, by rw [← hfl]; exact hf, congrArg (fV op) hw, rfl⟩, ?_⟩
        show 8 - (IntKind.i64.wrap ((j : Int) + 1)).toNat < 8 - (j : Int).toNat
        rw [hw]; omega
      · conv => whnf
        have h3' := of_decide_eq_true h3
        rw [if_pos (by omega)] at hfl
        rw [show IntKind.i64.wrap (op - g.f0) = op - g.f0 from wrap_i64 (by omega) (by omega)]
        refine ⟨rfl, by omega, by omega, ?_⟩
        conv => whnf
        refine ⟨rfl, by omega, (by decide : 0 + 1 ≤ 1), ?_⟩
        rw [Nat.zero_add]
        conv => whnf
        rw [← hf, hfl]
        exact end_of [] (by rfl) (by rfl) (by rfl) (by exact ⟨rfl, rfl⟩)

end Sh
end Go.Proofs.YtoegodeglgeomaaDoor
