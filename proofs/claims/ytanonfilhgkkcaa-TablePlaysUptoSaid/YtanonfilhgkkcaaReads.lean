/- How this seat's values read. -/
import Derived.Test.YtanonfilhgkkcaaSeat
import Derived.Test.YtanonfilhgkkcaaSh22
namespace Go.Proofs.Ytanonfilhgkkcaa
open Go
namespace Sh

abbrev wf (k : IntKind) (n : Int) : Prop := (Lit.int k n).wf = true

def goodR (r : Ref) : Prop := wf .i64 r.kind ∧ wf .u64 r.addr
def goodV (v : Val) : Prop := wf .i64 v.type ∧ wf .u64 v.bits ∧ goodR v.ref
def goodO (N : Nat) (o : Opn) : Prop := wf .i64 o.what ∧ wf .u64 o.at_ ∧ wf .u64 o.to ∧ wf .u64 o.n ∧ wf .u64 o.most ∧ goodV o.v ∧
  (∃ l, o.l = some l ∧ l.length ≤ N ∧ ∀ v ∈ l, goodV v) ∧ ∃ r, o.r = some r ∧ r.length ≤ N ∧ ∀ x ∈ r, goodR x

def goodT (N : Nat) : (k : KT) → ElT k → Prop
  | .value, v => goodV v
  | .ref, r => goodR r
  | .u8, n => wf .u8 n
  | .op, o => goodO N o

def kindsT : KT → List (LK KT)
  | .value => [.i .i64, .i .u64, .i .i64, .i .u64, .b]
  | .ref => [.i .i64, .i .u64, .b]
  | .u8 => [.i .u8]
  | .op => [.i .i64, .i .u64, .i .u64, .i .u64, .i .u64, .i .i64, .i .u64, .i .i64, .i .u64, .b, .sl .value, .sl .ref]

theorem makeT (N : Nat) : ∀ k us, Typed N (goodT N) (kindsT k) us → ∃ x, S.enc k x = us ∧ goodT N k x
  | .value, us, h => by
    obtain ⟨u0, us, rfl, h0, h⟩ := h.uncons
    obtain ⟨u1, us, rfl, h1, h⟩ := h.uncons
    obtain ⟨u2, us, rfl, h2, h⟩ := h.uncons
    obtain ⟨u3, us, rfl, h3, h⟩ := h.uncons
    obtain ⟨u4, us, rfl, h4, h⟩ := h.uncons
    obtain rfl := h.unnil
    obtain ⟨a0, rfl, g0⟩ := h0.int
    obtain ⟨a1, rfl, g1⟩ := h1.int
    obtain ⟨a2, rfl, g2⟩ := h2.int
    obtain ⟨a3, rfl, g3⟩ := h3.int
    obtain ⟨a4, rfl⟩ := h4.bool
    exact ⟨⟨a0, a1, ⟨a2, a3, a4⟩⟩, rfl, g0, g1, g2, g3⟩
  | .ref, us, h => by
    obtain ⟨u0, us, rfl, h0, h⟩ := h.uncons
    obtain ⟨u1, us, rfl, h1, h⟩ := h.uncons
    obtain ⟨u2, us, rfl, h2, h⟩ := h.uncons
    obtain rfl := h.unnil
    obtain ⟨a0, rfl, g0⟩ := h0.int
    obtain ⟨a1, rfl, g1⟩ := h1.int
    obtain ⟨a2, rfl⟩ := h2.bool
    exact ⟨⟨a0, a1, a2⟩, rfl, g0, g1⟩
  | .u8, us, h => by
    obtain ⟨u0, us, rfl, h0, h⟩ := h.uncons
    obtain rfl := h.unnil
    obtain ⟨a0, rfl, g0⟩ := h0.int
    exact ⟨a0, rfl, g0⟩
  | .op, us, h => by
    obtain ⟨u0, us, rfl, h0, h⟩ := h.uncons
    obtain ⟨u1, us, rfl, h1, h⟩ := h.uncons
    obtain ⟨u2, us, rfl, h2, h⟩ := h.uncons
    obtain ⟨u3, us, rfl, h3, h⟩ := h.uncons
    obtain ⟨u4, us, rfl, h4, h⟩ := h.uncons
    obtain ⟨u5, us, rfl, h5, h⟩ := h.uncons
    obtain ⟨u6, us, rfl, h6, h⟩ := h.uncons
    obtain ⟨u7, us, rfl, h7, h⟩ := h.uncons
    obtain ⟨u8, us, rfl, h8, h⟩ := h.uncons
    obtain ⟨u9, us, rfl, h9, h⟩ := h.uncons
    obtain ⟨u10, us, rfl, h10, h⟩ := h.uncons
    obtain ⟨u11, us, rfl, h11, h⟩ := h.uncons
    obtain rfl := h.unnil
    obtain ⟨a0, rfl, g0⟩ := h0.int
    obtain ⟨a1, rfl, g1⟩ := h1.int
    obtain ⟨a2, rfl, g2⟩ := h2.int
    obtain ⟨a3, rfl, g3⟩ := h3.int
    obtain ⟨a4, rfl, g4⟩ := h4.int
    obtain ⟨a5, rfl, g5⟩ := h5.int
    obtain ⟨a6, rfl, g6⟩ := h6.int
    obtain ⟨a7, rfl, g7⟩ := h7.int
    obtain ⟨a8, rfl, g8⟩ := h8.int
    obtain ⟨a9, rfl⟩ := h9.bool
    obtain ⟨a10, rfl, g10, f10⟩ := h10.sl
    obtain ⟨a11, rfl, g11, f11⟩ := h11.sl
    exact ⟨⟨a0, a1, a2, a3, a4, ⟨a5, a6, ⟨a7, a8, a9⟩⟩, some a10, some a11⟩, rfl, g0, g1, g2, g3, g4, ⟨g5, g6, g7, g8⟩, ⟨a10, rfl, g10, f10⟩, ⟨a11, rfl, g11, f11⟩⟩

noncomputable def RT (N : Nat) : Reads S where
  N := N
  good := goodT N
  kinds := kindsT
  lay k := by cases k <;> kernel_rfl
  make := makeT N

end Sh
end Go.Proofs.Ytanonfilhgkkcaa
