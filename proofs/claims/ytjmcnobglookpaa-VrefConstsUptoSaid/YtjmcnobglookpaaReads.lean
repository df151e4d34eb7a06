/- MADE BY PROGRAM (seat2.py): how this seat's values read. -/
import Derived.Test.YtjmcnobglookpaaSeat
import Derived.Test.YtjmcnobglookpaaSh22
namespace Go.Proofs.Ytjmcnobglookpaa
open Go
namespace Sh

abbrev wf (k : IntKind) (n : Int) : Prop := (Lit.int k n).wf = true

def good_int (_N : Nat) (x : Int) : Prop := wf .i64 x

def good_u32 (_N : Nat) (x : Int) : Prop := wf .u32 x

def good_vt (_N : Nat) (x : El_vt) : Prop := wf .i64 x.num ∧ wf .i64 x.heap

def good_catch (_N : Nat) (x : El_catch) : Prop := wf .i64 x.kind ∧ wf .u32 x.tag ∧ wf .u32 x.label

def good_glob (_N : Nat) (x : El_glob) : Prop := wf .i64 x.num ∧ wf .i64 x.heap

def good_row (N : Nat) (x : El_row) : Prop := wf .i64 x.first ∧ wf .i64 x.many ∧ x.head.size ≤ N ∧ x.names.size ≤ N ∧ wf .i64 x.form

def good_known (N : Nat) (x : El_known) : Prop := wf .i64 x.op ∧ x.name.size ≤ N ∧ wf .i64 x.form

def good_instr (_N : Nat) (x : El_instr) : Prop := wf .i64 x.op ∧ wf .u32 x.x ∧ (∃ l, x.body = some l) ∧ (∃ l, x.els = some l) ∧ (∃ l, x.la = some l) ∧ (∃ l, x.ty = some l) ∧ (∃ l, x.ca = some l)

def goodT (N : Nat) : (k : KT) → ElT k → Prop
  | .int, x => good_int N x
  | .u32, x => good_u32 N x
  | .vt, x => good_vt N x
  | .catch, x => good_catch N x
  | .glob, x => good_glob N x
  | .row, x => good_row N x
  | .known, x => good_known N x
  | .instr, x => good_instr N x

def kindsT : KT → List (LK KT)
  | .int => [.i .i64]
  | .u32 => [.i .u32]
  | .vt => [.i .i64, .b, .i .i64]
  | .catch => [.i .i64, .i .u32, .i .u32]
  | .glob => [.i .i64, .b, .i .i64, .b]
  | .row => [.i .i64, .i .i64, .s, .s, .i .i64]
  | .known => [.i .i64, .s, .i .i64]
  | .instr => [.i .i64, .i .u32, .i .u32, .i .u64, .i .u32, .i .u32, .i .u64, .i .i64, .i .i64, .b, .i .i64, .sl .instr, .sl .instr, .b, .sl .u32, .sl .vt, .sl .catch]

theorem makeT (N : Nat) : ∀ k us, Typed N (goodT N) (kindsT k) us → ∃ x, S.enc k x = us ∧ goodT N k x
  | .int, us, h => by
    obtain ⟨u0, us, rfl, h0, h⟩ := h.uncons
    obtain rfl := h.unnil
    obtain ⟨a0, rfl, g0⟩ := h0.int
    exact ⟨a0, rfl, g0⟩
  | .u32, us, h => by
    obtain ⟨u0, us, rfl, h0, h⟩ := h.uncons
    obtain rfl := h.unnil
    obtain ⟨a0, rfl, g0⟩ := h0.int
    exact ⟨a0, rfl, g0⟩
  | .vt, us, h => by
    obtain ⟨u0, us, rfl, h0, h⟩ := h.uncons
    obtain ⟨u1, us, rfl, h1, h⟩ := h.uncons
    obtain ⟨u2, us, rfl, h2, h⟩ := h.uncons
    obtain rfl := h.unnil
    obtain ⟨a0, rfl, g0⟩ := h0.int
    obtain ⟨a1, rfl⟩ := h1.bool
    obtain ⟨a2, rfl, g2⟩ := h2.int
    exact ⟨⟨a0, a1, a2⟩, rfl, g0, g2⟩
  | .catch, us, h => by
    obtain ⟨u0, us, rfl, h0, h⟩ := h.uncons
    obtain ⟨u1, us, rfl, h1, h⟩ := h.uncons
    obtain ⟨u2, us, rfl, h2, h⟩ := h.uncons
    obtain rfl := h.unnil
    obtain ⟨a0, rfl, g0⟩ := h0.int
    obtain ⟨a1, rfl, g1⟩ := h1.int
    obtain ⟨a2, rfl, g2⟩ := h2.int
    exact ⟨⟨a0, a1, a2⟩, rfl, g0, g1, g2⟩
  | .glob, us, h => by
    obtain ⟨u0, us, rfl, h0, h⟩ := h.uncons
    obtain ⟨u1, us, rfl, h1, h⟩ := h.uncons
    obtain ⟨u2, us, rfl, h2, h⟩ := h.uncons
    obtain ⟨u3, us, rfl, h3, h⟩ := h.uncons
    obtain rfl := h.unnil
    obtain ⟨a0, rfl, g0⟩ := h0.int
    obtain ⟨a1, rfl⟩ := h1.bool
    obtain ⟨a2, rfl, g2⟩ := h2.int
    obtain ⟨a3, rfl⟩ := h3.bool
    exact ⟨⟨a0, a1, a2, a3⟩, rfl, g0, g2⟩
  | .row, us, h => by
    obtain ⟨u0, us, rfl, h0, h⟩ := h.uncons
    obtain ⟨u1, us, rfl, h1, h⟩ := h.uncons
    obtain ⟨u2, us, rfl, h2, h⟩ := h.uncons
    obtain ⟨u3, us, rfl, h3, h⟩ := h.uncons
    obtain ⟨u4, us, rfl, h4, h⟩ := h.uncons
    obtain rfl := h.unnil
    obtain ⟨a0, rfl, g0⟩ := h0.int
    obtain ⟨a1, rfl, g1⟩ := h1.int
    obtain ⟨a2, rfl, g2⟩ := h2.str
    obtain ⟨a3, rfl, g3⟩ := h3.str
    obtain ⟨a4, rfl, g4⟩ := h4.int
    exact ⟨⟨a0, a1, a2, a3, a4⟩, rfl, g0, g1, g2, g3, g4⟩
  | .known, us, h => by
    obtain ⟨u0, us, rfl, h0, h⟩ := h.uncons
    obtain ⟨u1, us, rfl, h1, h⟩ := h.uncons
    obtain ⟨u2, us, rfl, h2, h⟩ := h.uncons
    obtain rfl := h.unnil
    obtain ⟨a0, rfl, g0⟩ := h0.int
    obtain ⟨a1, rfl, g1⟩ := h1.str
    obtain ⟨a2, rfl, g2⟩ := h2.int
    exact ⟨⟨a0, a1, a2⟩, rfl, g0, g1, g2⟩
  | .instr, us, h => by
    obtain ⟨u0, us, rfl, h0, h⟩ := h.uncons
    obtain ⟨u1, us, rfl, h1, h⟩ := h.uncons
    obtain ⟨u2, us, rfl, h2, h⟩ := h.uncons
    obtain ⟨u3, us, rfl, h3, h⟩ := h.uncons
    obtain ⟨u4, us, rfl, h4, h⟩ := h.uncons
    obtain ⟨u5, us, rfl, h5, h⟩ := h.uncons
    obtain ⟨u6, us, rfl, h6, h⟩ := h.uncons
    obtain ⟨u7, us, rfl, h7, h⟩ := h.uncons
    obtain ⟨u8, us, rfl, h8, h⟩ := h.uncons
    obtain ⟨u9, us, rfl, h9, h⟩ := h.uncons
    obtain ⟨u10, us, rfl, h10, h⟩ := h.uncons
    obtain ⟨u11, us, rfl, h11, h⟩ := h.uncons
    obtain ⟨u12, us, rfl, h12, h⟩ := h.uncons
    obtain ⟨u13, us, rfl, h13, h⟩ := h.uncons
    obtain ⟨u14, us, rfl, h14, h⟩ := h.uncons
    obtain ⟨u15, us, rfl, h15, h⟩ := h.uncons
    obtain ⟨u16, us, rfl, h16, h⟩ := h.uncons
    obtain rfl := h.unnil
    obtain ⟨a0, rfl, g0⟩ := h0.int
    obtain ⟨a1, rfl, g1⟩ := h1.int
    obtain ⟨a2, rfl, g2⟩ := h2.int
    obtain ⟨a3, rfl, g3⟩ := h3.int
    obtain ⟨a4, rfl, g4⟩ := h4.int
    obtain ⟨a5, rfl, g5⟩ := h5.int
    obtain ⟨a6, rfl, g6⟩ := h6.int
    obtain ⟨a7, rfl, g7⟩ := h7.int
    obtain ⟨a8, rfl, g8⟩ := h8.int
    obtain ⟨a9, rfl⟩ := h9.bool
    obtain ⟨a10, rfl, g10⟩ := h10.int
    obtain ⟨a11, rfl, g11, k11⟩ := h11.sl
    obtain ⟨a12, rfl, g12, k12⟩ := h12.sl
    obtain ⟨a13, rfl⟩ := h13.bool
    obtain ⟨a14, rfl, g14, k14⟩ := h14.sl
    obtain ⟨a15, rfl, g15, k15⟩ := h15.sl
    obtain ⟨a16, rfl, g16, k16⟩ := h16.sl
    exact ⟨⟨a0, a1, a2, a3, a4, a5, a6, a7, a8, a9, a10, some a11, some a12, a13, some a14, some a15, some a16⟩, rfl, g0, g1, ⟨_, rfl⟩, ⟨_, rfl⟩, ⟨_, rfl⟩, ⟨_, rfl⟩, ⟨_, rfl⟩⟩

noncomputable def RT (N : Nat) : Reads S where
  N := N
  good := goodT N
  kinds := kindsT
  lay k := by cases k <;> kernel_rfl
  make := makeT N

end Sh
end Go.Proofs.Ytjmcnobglookpaa
