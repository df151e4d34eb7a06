/- MADE BY PROGRAM (seat2.py): how this seat's values read. -/
import Derived.Test.YtlnloekadohddaaDoorSeat
import Derived.Test.YtlnloekadohddaaDoorSh22
namespace Go.Proofs.YtlnloekadohddaaDoor
open Go
namespace Sh

abbrev wf (k : IntKind) (n : Int) : Prop := (Lit.int k n).wf = true

def good_vt (_N : Nat) (x : El_vt) : Prop := wf .i64 x.num ∧ wf .i64 x.heap

def good_int (_N : Nat) (x : Int) : Prop := wf .i64 x

def good_bool (_N : Nat) (_x : Bool) : Prop := True

def good_u32 (_N : Nat) (x : Int) : Prop := wf .u32 x

def good_err (_N : Nat) (x : Int) : Prop := wf .i64 x

def good_fld (_N : Nat) (x : El_fld) : Prop := wf .i64 x.num ∧ wf .i64 x.heap

def good_sub (N : Nat) (x : El_sub) : Prop := (∃ l, x.supers = some l ∧ l.length ≤ N ∧ ∀ y ∈ l, good_int N y) ∧ wf .i64 x.kind ∧ (∃ l, x.params = some l ∧ l.length ≤ N ∧ ∀ y ∈ l, good_vt N y) ∧ (∃ l, x.results = some l ∧ l.length ≤ N ∧ ∀ y ∈ l, good_vt N y) ∧ (∃ l, x.fields = some l ∧ l.length ≤ N ∧ ∀ y ∈ l, good_fld N y)

def good_grp (N : Nat) (x : El_grp) : Prop := (∃ l, x.types = some l ∧ l.length ≤ N ∧ ∀ y ∈ l, good_sub N y)

def good_frame (N : Nat) (x : El_frame) : Prop := wf .i64 x.op ∧ (∃ l, x.inn = some l ∧ l.length ≤ N ∧ ∀ y ∈ l, good_vt N y) ∧ (∃ l, x.out = some l ∧ l.length ≤ N ∧ ∀ y ∈ l, good_vt N y) ∧ wf .i64 x.height ∧ (∃ l, x.sets = some l ∧ l.length ≤ N ∧ ∀ y ∈ l, good_bool N y)

def good_rframe (N : Nat) (x : El_rframe) : Prop := wf .i64 x.op ∧ (∃ l, x.inn = some l ∧ l.length ≤ N ∧ ∀ y ∈ l, good_vt N y) ∧ (∃ l, x.out = some l ∧ l.length ≤ N ∧ ∀ y ∈ l, good_vt N y) ∧ wf .i64 x.height ∧ (∃ l, x.sets = some l ∧ l.length ≤ N ∧ ∀ y ∈ l, good_bool N y)

def goodT (N : Nat) : (k : KT) → ElT k → Prop
  | .vt, x => good_vt N x
  | .int, x => good_int N x
  | .bool, x => good_bool N x
  | .u32, x => good_u32 N x
  | .err, x => good_err N x
  | .fld, x => good_fld N x
  | .sub, x => good_sub N x
  | .grp, x => good_grp N x
  | .frame, x => good_frame N x
  | .rframe, x => good_rframe N x

def kindsT : KT → List (LK KT)
  | .vt => [.i .i64, .b, .i .i64]
  | .int => [.i .i64]
  | .bool => [.b]
  | .u32 => [.i .u32]
  | .err => [.i .i64]
  | .fld => [.i .i64, .b, .i .i64, .b]
  | .sub => [.b, .sl .int, .i .i64, .sl .vt, .sl .vt, .sl .fld]
  | .grp => [.sl .sub, .b]
  | .frame => [.i .i64, .sl .vt, .sl .vt, .i .i64, .sl .bool, .b]
  | .rframe => [.i .i64, .sl .vt, .sl .vt, .i .i64, .sl .bool, .b]

theorem makeT (N : Nat) : ∀ k us, Typed N (goodT N) (kindsT k) us → ∃ x, S.enc k x = us ∧ goodT N k x
  | .vt, us, h => by
    obtain ⟨u0, us, rfl, h0, h⟩ := h.uncons
    obtain ⟨u1, us, rfl, h1, h⟩ := h.uncons
    obtain ⟨u2, us, rfl, h2, h⟩ := h.uncons
    obtain rfl := h.unnil
    obtain ⟨a0, rfl, g0⟩ := h0.int
    obtain ⟨a1, rfl⟩ := h1.bool
    obtain ⟨a2, rfl, g2⟩ := h2.int
    exact ⟨⟨a0, a1, a2⟩, rfl, g0, g2⟩
  | .int, us, h => by
    obtain ⟨u0, us, rfl, h0, h⟩ := h.uncons
    obtain rfl := h.unnil
    obtain ⟨a0, rfl, g0⟩ := h0.int
    exact ⟨a0, rfl, g0⟩
  | .bool, us, h => by
    obtain ⟨u0, us, rfl, h0, h⟩ := h.uncons
    obtain rfl := h.unnil
    obtain ⟨a0, rfl⟩ := h0.bool
    exact ⟨a0, rfl, trivial⟩
  | .u32, us, h => by
    obtain ⟨u0, us, rfl, h0, h⟩ := h.uncons
    obtain rfl := h.unnil
    obtain ⟨a0, rfl, g0⟩ := h0.int
    exact ⟨a0, rfl, g0⟩
  | .err, us, h => by
    obtain ⟨u0, us, rfl, h0, h⟩ := h.uncons
    obtain rfl := h.unnil
    obtain ⟨a0, rfl, g0⟩ := h0.int
    exact ⟨a0, rfl, g0⟩
  | .fld, us, h => by
    obtain ⟨u0, us, rfl, h0, h⟩ := h.uncons
    obtain ⟨u1, us, rfl, h1, h⟩ := h.uncons
    obtain ⟨u2, us, rfl, h2, h⟩ := h.uncons
    obtain ⟨u3, us, rfl, h3, h⟩ := h.uncons
    obtain rfl := h.unnil
    obtain ⟨a0, rfl, g0⟩ := h0.int
    obtain ⟨a1, rfl⟩ := h1.bool
    obtain ⟨a2, rfl, g2⟩ := h2.int
    obtain ⟨a3, rfl⟩ := h3.bool
    exact ⟨⟨a0, a1, a2, a3⟩, rfl, g0, g2⟩
  | .sub, us, h => by
    obtain ⟨u0, us, rfl, h0, h⟩ := h.uncons
    obtain ⟨u1, us, rfl, h1, h⟩ := h.uncons
    obtain ⟨u2, us, rfl, h2, h⟩ := h.uncons
    obtain ⟨u3, us, rfl, h3, h⟩ := h.uncons
    obtain ⟨u4, us, rfl, h4, h⟩ := h.uncons
    obtain ⟨u5, us, rfl, h5, h⟩ := h.uncons
    obtain rfl := h.unnil
    obtain ⟨a0, rfl⟩ := h0.bool
    obtain ⟨a1, rfl, g1, k1⟩ := h1.sl
    obtain ⟨a2, rfl, g2⟩ := h2.int
    obtain ⟨a3, rfl, g3, k3⟩ := h3.sl
    obtain ⟨a4, rfl, g4, k4⟩ := h4.sl
    obtain ⟨a5, rfl, g5, k5⟩ := h5.sl
    exact ⟨⟨a0, some a1, a2, some a3, some a4, some a5⟩, rfl, ⟨a1, rfl, g1, k1⟩, g2, ⟨a3, rfl, g3, k3⟩, ⟨a4, rfl, g4, k4⟩, ⟨a5, rfl, g5, k5⟩⟩
  | .grp, us, h => by
    obtain ⟨u0, us, rfl, h0, h⟩ := h.uncons
    obtain ⟨u1, us, rfl, h1, h⟩ := h.uncons
    obtain rfl := h.unnil
    obtain ⟨a0, rfl, g0, k0⟩ := h0.sl
    obtain ⟨a1, rfl⟩ := h1.bool
    exact ⟨⟨some a0, a1⟩, rfl, ⟨a0, rfl, g0, k0⟩⟩
  | .frame, us, h => by
    obtain ⟨u0, us, rfl, h0, h⟩ := h.uncons
    obtain ⟨u1, us, rfl, h1, h⟩ := h.uncons
    obtain ⟨u2, us, rfl, h2, h⟩ := h.uncons
    obtain ⟨u3, us, rfl, h3, h⟩ := h.uncons
    obtain ⟨u4, us, rfl, h4, h⟩ := h.uncons
    obtain ⟨u5, us, rfl, h5, h⟩ := h.uncons
    obtain rfl := h.unnil
    obtain ⟨a0, rfl, g0⟩ := h0.int
    obtain ⟨a1, rfl, g1, k1⟩ := h1.sl
    obtain ⟨a2, rfl, g2, k2⟩ := h2.sl
    obtain ⟨a3, rfl, g3⟩ := h3.int
    obtain ⟨a4, rfl, g4, k4⟩ := h4.sl
    obtain ⟨a5, rfl⟩ := h5.bool
    exact ⟨⟨a0, some a1, some a2, a3, some a4, a5⟩, rfl, g0, ⟨a1, rfl, g1, k1⟩, ⟨a2, rfl, g2, k2⟩, g3, ⟨a4, rfl, g4, k4⟩⟩
  | .rframe, us, h => by
    obtain ⟨u0, us, rfl, h0, h⟩ := h.uncons
    obtain ⟨u1, us, rfl, h1, h⟩ := h.uncons
    obtain ⟨u2, us, rfl, h2, h⟩ := h.uncons
    obtain ⟨u3, us, rfl, h3, h⟩ := h.uncons
    obtain ⟨u4, us, rfl, h4, h⟩ := h.uncons
    obtain ⟨u5, us, rfl, h5, h⟩ := h.uncons
    obtain rfl := h.unnil
    obtain ⟨a0, rfl, g0⟩ := h0.int
    obtain ⟨a1, rfl, g1, k1⟩ := h1.sl
    obtain ⟨a2, rfl, g2, k2⟩ := h2.sl
    obtain ⟨a3, rfl, g3⟩ := h3.int
    obtain ⟨a4, rfl, g4, k4⟩ := h4.sl
    obtain ⟨a5, rfl⟩ := h5.bool
    exact ⟨⟨a0, some a1, some a2, a3, some a4, a5⟩, rfl, g0, ⟨a1, rfl, g1, k1⟩, ⟨a2, rfl, g2, k2⟩, g3, ⟨a4, rfl, g4, k4⟩⟩

noncomputable def RT (N : Nat) : Reads S where
  N := N
  good := goodT N
  kinds := kindsT
  lay k := by cases k <;> kernel_rfl
  make := makeT N

end Sh
end Go.Proofs.YtlnloekadohddaaDoor
