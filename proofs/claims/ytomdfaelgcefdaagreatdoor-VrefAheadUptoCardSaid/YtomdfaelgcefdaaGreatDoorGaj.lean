/- Reads Shelf. -/
import Derived.Shelf.Strconv.Itoa0
import Derived.Shelf.Strconv.Itoa1
import Derived.Shelf.LaysM
import Derived.Shelf.Strconv.Itoa2
import Derived.Shelf.Bits.Mul64
import Derived.Test.YtomdfaelgcefdaaGreatDoorProg
import Derived.Test.YtomdfaelgcefdaaGreatDoorGai
set_option maxRecDepth 100000
set_option maxHeartbeats 64000000
namespace Go.Proofs.YtomdfaelgcefdaaGreatDoor
open Go
namespace Sh
abbrev wf (k : IntKind) (n : Int) : Prop := (Lit.int k n).wf = true
def good_vt (_N : Nat) (x : El_vt) : Prop := wf .i64 x.num ∧ wf .i64 x.heap
def good_int (_N : Nat) (x : Int) : Prop := wf .i64 x
def good_bool (_N : Nat) (_x : Bool) : Prop := True
def good_u32 (_N : Nat) (x : Int) : Prop := wf .u32 x
def good_u8 (_N : Nat) (x : Int) : Prop := wf .u8 x
def good_fld (_N : Nat) (x : El_fld) : Prop := wf .i64 x.num ∧ wf .i64 x.heap
def good_sub (N : Nat) (x : El_sub) : Prop := (∃ l,x.supers = some l ∧ l.length ≤ N ∧ ∀ y ∈ l,good_int N y) ∧ wf .i64 x.kind ∧ (∃ l,x.params = some l ∧ l.length ≤ N ∧ ∀ y ∈ l,good_vt N y) ∧ (∃ l,x.results = some l ∧ l.length ≤ N ∧ ∀ y ∈ l,good_vt N y) ∧ (∃ l,x.fields = some l ∧ l.length ≤ N ∧ ∀ y ∈ l,good_fld N y)
def good_grp (N : Nat) (x : El_grp) : Prop := (∃ l,x.types = some l ∧ l.length ≤ N ∧ ∀ y ∈ l,good_sub N y)
def good_lvt (N : Nat) (x : (Option (List El_vt))) : Prop := (∃ l,x = some l ∧ l.length ≤ N ∧ ∀ y ∈ l,good_vt N y)
def good_frame (N : Nat) (x : El_frame) : Prop := wf .i64 x.op ∧ (∃ l,x.inn = some l ∧ l.length ≤ N ∧ ∀ y ∈ l,good_vt N y) ∧ (∃ l,x.out = some l ∧ l.length ≤ N ∧ ∀ y ∈ l,good_vt N y) ∧ wf .i64 x.height ∧ (∃ l,x.sets = some l ∧ l.length ≤ N ∧ ∀ y ∈ l,good_bool N y)
def good_rframe (N : Nat) (x : El_rframe) : Prop := wf .i64 x.op ∧ (∃ l,x.inn = some l ∧ l.length ≤ N ∧ ∀ y ∈ l,good_vt N y) ∧ (∃ l,x.out = some l ∧ l.length ≤ N ∧ ∀ y ∈ l,good_vt N y) ∧ wf .i64 x.height ∧ (∃ l,x.sets = some l ∧ l.length ≤ N ∧ ∀ y ∈ l,good_bool N y)
def good_glob (_N : Nat) (x : El_glob) : Prop := wf .i64 x.num ∧ wf .i64 x.heap
def good_lim (_N : Nat) (x : El_lim) : Prop := wf .u64 x.mn ∧ wf .u64 x.mx
def good_tbl (_N : Nat) (x : El_tbl) : Prop := wf .i64 x.num ∧ wf .i64 x.heap ∧ wf .u64 x.mn ∧ wf .u64 x.mx
def good_rrow (N : Nat) (x : El_rrow) : Prop := wf .i64 x.first ∧ x.head.size ≤ N ∧ x.names.size ≤ N ∧ x.form.size ≤ N
def good_row (N : Nat) (x : El_row) : Prop := wf .i64 x.first ∧ wf .i64 x.many ∧ x.head.size ≤ N ∧ x.names.size ≤ N ∧ wf .i64 x.form
def good_known (N : Nat) (x : El_known) : Prop := wf .i64 x.op ∧ x.name.size ≤ N ∧ wf .i64 x.form
def good_catch (_N : Nat) (x : El_catch) : Prop := wf .i64 x.kind ∧ wf .u32 x.tag ∧ wf .u32 x.label
def good_instr (N : Nat) (x : El_instr) : Prop := wf .i64 x.op ∧ wf .u32 x.x ∧ wf .u32 x.y ∧ wf .u64 x.n ∧ wf .u32 x.al ∧ wf .u32 x.me ∧ wf .u64 x.off ∧ wf .i64 x.bt ∧ wf .i64 x.bn ∧ wf .i64 x.bh ∧ (∃ l,x.body = some l) ∧ (∃ l,x.els = some l) ∧ (∃ l,x.la = some l ∧ l.length ≤ N ∧ ∀ y ∈ l,good_u32 N y) ∧ (∃ l,x.ty = some l ∧ l.length ≤ N ∧ ∀ y ∈ l,good_vt N y) ∧ (∃ l,x.ca = some l ∧ l.length ≤ N ∧ ∀ y ∈ l,good_catch N y)
def good_fam (N : Nat) (x : El_fam) : Prop := wf .i64 x.first ∧ (∃ l,x.types = some l ∧ l.length ≤ N ∧ ∀ y ∈ l,good_sub N y)
def good_rolled (N : Nat) (x : El_rolled) : Prop := (∃ l,x.types = some l ∧ l.length ≤ N ∧ ∀ y ∈ l,good_sub N y) ∧ wf .i64 x.first
def goodT (N : Nat) : (k : KT) → ElT k → Prop
 | .vt,x => good_vt N x
 | .int,x => good_int N x
 | .bool,x => good_bool N x
 | .u32,x => good_u32 N x
 | .u8,x => good_u8 N x
 | .fld,x => good_fld N x
 | .sub,x => good_sub N x
 | .grp,x => good_grp N x
 | .lvt,x => good_lvt N x
 | .frame,x => good_frame N x
 | .rframe,x => good_rframe N x
 | .glob,x => good_glob N x
 | .lim,x => good_lim N x
 | .tbl,x => good_tbl N x
 | .rrow,x => good_rrow N x
 | .row,x => good_row N x
 | .known,x => good_known N x
 | .catch,x => good_catch N x
 | .instr,x => good_instr N x
 | .fam,x => good_fam N x
 | .rolled,x => good_rolled N x
def kindsT : KT → List (LK KT)
 | .vt => [.i .i64,.b,.i .i64]
 | .int => [.i .i64]
 | .bool => [.b]
 | .u32 => [.i .u32]
 | .u8 => [.i .u8]
 | .fld => [.i .i64,.b,.i .i64,.b]
 | .sub => [.b,.sl .int,.i .i64,.sl .vt,.sl .vt,.sl .fld]
 | .grp => [.sl .sub,.b]
 | .lvt => [.sl .vt]
 | .frame => [.i .i64,.sl .vt,.sl .vt,.i .i64,.sl .bool,.b]
 | .rframe => [.i .i64,.sl .vt,.sl .vt,.i .i64,.sl .bool,.b]
 | .glob => [.i .i64,.b,.i .i64,.b]
 | .lim => [.b,.i .u64,.i .u64,.b]
 | .tbl => [.i .i64,.b,.i .i64,.b,.i .u64,.i .u64,.b]
 | .rrow => [.i .i64,.s,.s,.s]
 | .row => [.i .i64,.i .i64,.s,.s,.i .i64]
 | .known => [.i .i64,.s,.i .i64]
 | .catch => [.i .i64,.i .u32,.i .u32]
 | .instr => [.i .i64,.i .u32,.i .u32,.i .u64,.i .u32,.i .u32,.i .u64,.i .i64,.i .i64,.b,.i .i64,.sl .instr,.sl .instr,.b,.sl .u32,.sl .vt,.sl .catch]
 | .fam => [.i .i64,.sl .sub]
 | .rolled => [.sl .sub,.i .i64]
theorem makeT (N : Nat) : ∀ k us,Typed N (goodT N) (kindsT k) us → ∃ x,S.enc k x = us ∧ goodT N k x
 | .vt,us,h => by
  obtain ⟨u0,us,rfl,h0,h⟩ := h.uncons;obtain ⟨u1,us,rfl,h1,h⟩ := h.uncons;obtain ⟨u2,us,rfl,h2,h⟩ := h.uncons;obtain rfl := h.unnil;obtain ⟨a0,rfl,g0⟩ := h0.int;obtain ⟨a1,rfl⟩ := h1.bool;obtain ⟨a2,rfl,g2⟩ := h2.int;exact ⟨⟨a0,a1,a2⟩,rfl,g0,g2⟩
 | .int,us,h => by
  obtain ⟨u0,us,rfl,h0,h⟩ := h.uncons;obtain rfl := h.unnil;obtain ⟨a0,rfl,g0⟩ := h0.int;exact ⟨a0,rfl,g0⟩
 | .bool,us,h => by
  obtain ⟨u0,us,rfl,h0,h⟩ := h.uncons;obtain rfl := h.unnil;obtain ⟨a0,rfl⟩ := h0.bool;exact ⟨a0,rfl,trivial⟩
 | .u32,us,h => by
  obtain ⟨u0,us,rfl,h0,h⟩ := h.uncons;obtain rfl := h.unnil;obtain ⟨a0,rfl,g0⟩ := h0.int;exact ⟨a0,rfl,g0⟩
 | .u8,us,h => by
  obtain ⟨u0,us,rfl,h0,h⟩ := h.uncons;obtain rfl := h.unnil;obtain ⟨a0,rfl,g0⟩ := h0.int;exact ⟨a0,rfl,g0⟩
 | .fld,us,h => by
  obtain ⟨u0,us,rfl,h0,h⟩ := h.uncons;obtain ⟨u1,us,rfl,h1,h⟩ := h.uncons;obtain ⟨u2,us,rfl,h2,h⟩ := h.uncons;obtain ⟨u3,us,rfl,h3,h⟩ := h.uncons;obtain rfl := h.unnil;obtain ⟨a0,rfl,g0⟩ := h0.int;obtain ⟨a1,rfl⟩ := h1.bool;obtain ⟨a2,rfl,g2⟩ := h2.int;obtain ⟨a3,rfl⟩ := h3.bool;exact ⟨⟨a0,a1,a2,a3⟩,rfl,g0,g2⟩
 | .sub,us,h => by
  obtain ⟨u0,us,rfl,h0,h⟩ := h.uncons;obtain ⟨u1,us,rfl,h1,h⟩ := h.uncons;obtain ⟨u2,us,rfl,h2,h⟩ := h.uncons;obtain ⟨u3,us,rfl,h3,h⟩ := h.uncons;obtain ⟨u4,us,rfl,h4,h⟩ := h.uncons;obtain ⟨u5,us,rfl,h5,h⟩ := h.uncons;obtain rfl := h.unnil;obtain ⟨a0,rfl⟩ := h0.bool;obtain ⟨a1,rfl,g1,k1⟩ := h1.sl;obtain ⟨a2,rfl,g2⟩ := h2.int;obtain ⟨a3,rfl,g3,k3⟩ := h3.sl;obtain ⟨a4,rfl,g4,k4⟩ := h4.sl;obtain ⟨a5,rfl,g5,k5⟩ := h5.sl;exact ⟨⟨a0,some a1,a2,some a3,some a4,some a5⟩,rfl,⟨a1,rfl,g1,k1⟩,g2,⟨a3,rfl,g3,k3⟩,⟨a4,rfl,g4,k4⟩,⟨a5,rfl,g5,k5⟩⟩
 | .grp,us,h => by
  obtain ⟨u0,us,rfl,h0,h⟩ := h.uncons;obtain ⟨u1,us,rfl,h1,h⟩ := h.uncons;obtain rfl := h.unnil;obtain ⟨a0,rfl,g0,k0⟩ := h0.sl;obtain ⟨a1,rfl⟩ := h1.bool;exact ⟨⟨some a0,a1⟩,rfl,⟨a0,rfl,g0,k0⟩⟩
 | .lvt,us,h => by
  obtain ⟨u0,us,rfl,h0,h⟩ := h.uncons;obtain rfl := h.unnil;obtain ⟨a0,rfl,g0,k0⟩ := h0.sl;exact ⟨some a0,rfl,⟨a0,rfl,g0,k0⟩⟩
 | .frame,us,h => by
  obtain ⟨u0,us,rfl,h0,h⟩ := h.uncons;obtain ⟨u1,us,rfl,h1,h⟩ := h.uncons;obtain ⟨u2,us,rfl,h2,h⟩ := h.uncons;obtain ⟨u3,us,rfl,h3,h⟩ := h.uncons;obtain ⟨u4,us,rfl,h4,h⟩ := h.uncons;obtain ⟨u5,us,rfl,h5,h⟩ := h.uncons;obtain rfl := h.unnil;obtain ⟨a0,rfl,g0⟩ := h0.int;obtain ⟨a1,rfl,g1,k1⟩ := h1.sl;obtain ⟨a2,rfl,g2,k2⟩ := h2.sl;obtain ⟨a3,rfl,g3⟩ := h3.int;obtain ⟨a4,rfl,g4,k4⟩ := h4.sl;obtain ⟨a5,rfl⟩ := h5.bool;exact ⟨⟨a0,some a1,some a2,a3,some a4,a5⟩,rfl,g0,⟨a1,rfl,g1,k1⟩,⟨a2,rfl,g2,k2⟩,g3,⟨a4,rfl,g4,k4⟩⟩
 | .rframe,us,h => by
  obtain ⟨u0,us,rfl,h0,h⟩ := h.uncons;obtain ⟨u1,us,rfl,h1,h⟩ := h.uncons;obtain ⟨u2,us,rfl,h2,h⟩ := h.uncons;obtain ⟨u3,us,rfl,h3,h⟩ := h.uncons;obtain ⟨u4,us,rfl,h4,h⟩ := h.uncons;obtain ⟨u5,us,rfl,h5,h⟩ := h.uncons;obtain rfl := h.unnil;obtain ⟨a0,rfl,g0⟩ := h0.int;obtain ⟨a1,rfl,g1,k1⟩ := h1.sl;obtain ⟨a2,rfl,g2,k2⟩ := h2.sl;obtain ⟨a3,rfl,g3⟩ := h3.int;obtain ⟨a4,rfl,g4,k4⟩ := h4.sl;obtain ⟨a5,rfl⟩ := h5.bool;exact ⟨⟨a0,some a1,some a2,a3,some a4,a5⟩,rfl,g0,⟨a1,rfl,g1,k1⟩,⟨a2,rfl,g2,k2⟩,g3,⟨a4,rfl,g4,k4⟩⟩
 | .glob,us,h => by
  obtain ⟨u0,us,rfl,h0,h⟩ := h.uncons;obtain ⟨u1,us,rfl,h1,h⟩ := h.uncons;obtain ⟨u2,us,rfl,h2,h⟩ := h.uncons;obtain ⟨u3,us,rfl,h3,h⟩ := h.uncons;obtain rfl := h.unnil;obtain ⟨a0,rfl,g0⟩ := h0.int;obtain ⟨a1,rfl⟩ := h1.bool;obtain ⟨a2,rfl,g2⟩ := h2.int;obtain ⟨a3,rfl⟩ := h3.bool;exact ⟨⟨a0,a1,a2,a3⟩,rfl,g0,g2⟩
 | .lim,us,h => by
  obtain ⟨u0,us,rfl,h0,h⟩ := h.uncons;obtain ⟨u1,us,rfl,h1,h⟩ := h.uncons;obtain ⟨u2,us,rfl,h2,h⟩ := h.uncons;obtain ⟨u3,us,rfl,h3,h⟩ := h.uncons;obtain rfl := h.unnil;obtain ⟨a0,rfl⟩ := h0.bool;obtain ⟨a1,rfl,g1⟩ := h1.int;obtain ⟨a2,rfl,g2⟩ := h2.int;obtain ⟨a3,rfl⟩ := h3.bool;exact ⟨⟨a0,a1,a2,a3⟩,rfl,g1,g2⟩
 | .tbl,us,h => by
  obtain ⟨u0,us,rfl,h0,h⟩ := h.uncons;obtain ⟨u1,us,rfl,h1,h⟩ := h.uncons;obtain ⟨u2,us,rfl,h2,h⟩ := h.uncons;obtain ⟨u3,us,rfl,h3,h⟩ := h.uncons;obtain ⟨u4,us,rfl,h4,h⟩ := h.uncons;obtain ⟨u5,us,rfl,h5,h⟩ := h.uncons;obtain ⟨u6,us,rfl,h6,h⟩ := h.uncons;obtain rfl := h.unnil;obtain ⟨a0,rfl,g0⟩ := h0.int;obtain ⟨a1,rfl⟩ := h1.bool;obtain ⟨a2,rfl,g2⟩ := h2.int;obtain ⟨a3,rfl⟩ := h3.bool;obtain ⟨a4,rfl,g4⟩ := h4.int;obtain ⟨a5,rfl,g5⟩ := h5.int;obtain ⟨a6,rfl⟩ := h6.bool;exact ⟨⟨a0,a1,a2,a3,a4,a5,a6⟩,rfl,g0,g2,g4,g5⟩
 | .rrow,us,h => by
  obtain ⟨u0,us,rfl,h0,h⟩ := h.uncons;obtain ⟨u1,us,rfl,h1,h⟩ := h.uncons;obtain ⟨u2,us,rfl,h2,h⟩ := h.uncons;obtain ⟨u3,us,rfl,h3,h⟩ := h.uncons;obtain rfl := h.unnil;obtain ⟨a0,rfl,g0⟩ := h0.int;obtain ⟨a1,rfl,g1⟩ := h1.str;obtain ⟨a2,rfl,g2⟩ := h2.str;obtain ⟨a3,rfl,g3⟩ := h3.str;exact ⟨⟨a0,a1,a2,a3⟩,rfl,g0,g1,g2,g3⟩
 | .row,us,h => by
  obtain ⟨u0,us,rfl,h0,h⟩ := h.uncons;obtain ⟨u1,us,rfl,h1,h⟩ := h.uncons;obtain ⟨u2,us,rfl,h2,h⟩ := h.uncons;obtain ⟨u3,us,rfl,h3,h⟩ := h.uncons;obtain ⟨u4,us,rfl,h4,h⟩ := h.uncons;obtain rfl := h.unnil;obtain ⟨a0,rfl,g0⟩ := h0.int;obtain ⟨a1,rfl,g1⟩ := h1.int;obtain ⟨a2,rfl,g2⟩ := h2.str;obtain ⟨a3,rfl,g3⟩ := h3.str;obtain ⟨a4,rfl,g4⟩ := h4.int;exact ⟨⟨a0,a1,a2,a3,a4⟩,rfl,g0,g1,g2,g3,g4⟩
 | .known,us,h => by
  obtain ⟨u0,us,rfl,h0,h⟩ := h.uncons;obtain ⟨u1,us,rfl,h1,h⟩ := h.uncons;obtain ⟨u2,us,rfl,h2,h⟩ := h.uncons;obtain rfl := h.unnil;obtain ⟨a0,rfl,g0⟩ := h0.int;obtain ⟨a1,rfl,g1⟩ := h1.str;obtain ⟨a2,rfl,g2⟩ := h2.int;exact ⟨⟨a0,a1,a2⟩,rfl,g0,g1,g2⟩
 | .catch,us,h => by
  obtain ⟨u0,us,rfl,h0,h⟩ := h.uncons;obtain ⟨u1,us,rfl,h1,h⟩ := h.uncons;obtain ⟨u2,us,rfl,h2,h⟩ := h.uncons;obtain rfl := h.unnil;obtain ⟨a0,rfl,g0⟩ := h0.int;obtain ⟨a1,rfl,g1⟩ := h1.int;obtain ⟨a2,rfl,g2⟩ := h2.int;exact ⟨⟨a0,a1,a2⟩,rfl,g0,g1,g2⟩
 | .instr,us,h => by
  obtain ⟨u0,us,rfl,h0,h⟩ := h.uncons;obtain ⟨u1,us,rfl,h1,h⟩ := h.uncons;obtain ⟨u2,us,rfl,h2,h⟩ := h.uncons;obtain ⟨u3,us,rfl,h3,h⟩ := h.uncons;obtain ⟨u4,us,rfl,h4,h⟩ := h.uncons;obtain ⟨u5,us,rfl,h5,h⟩ := h.uncons;obtain ⟨u6,us,rfl,h6,h⟩ := h.uncons;obtain ⟨u7,us,rfl,h7,h⟩ := h.uncons;obtain ⟨u8,us,rfl,h8,h⟩ := h.uncons;obtain ⟨u9,us,rfl,h9,h⟩ := h.uncons;obtain ⟨u10,us,rfl,h10,h⟩ := h.uncons;obtain ⟨u11,us,rfl,h11,h⟩ := h.uncons;obtain ⟨u12,us,rfl,h12,h⟩ := h.uncons;obtain ⟨u13,us,rfl,h13,h⟩ := h.uncons;obtain ⟨u14,us,rfl,h14,h⟩ := h.uncons;obtain ⟨u15,us,rfl,h15,h⟩ := h.uncons;obtain ⟨u16,us,rfl,h16,h⟩ := h.uncons;obtain rfl := h.unnil;obtain ⟨a0,rfl,g0⟩ := h0.int;obtain ⟨a1,rfl,g1⟩ := h1.int;obtain ⟨a2,rfl,g2⟩ := h2.int;obtain ⟨a3,rfl,g3⟩ := h3.int;obtain ⟨a4,rfl,g4⟩ := h4.int;obtain ⟨a5,rfl,g5⟩ := h5.int;obtain ⟨a6,rfl,g6⟩ := h6.int;obtain ⟨a7,rfl,g7⟩ := h7.int;obtain ⟨a8,rfl,g8⟩ := h8.int;obtain ⟨a9,rfl⟩ := h9.bool;obtain ⟨a10,rfl,g10⟩ := h10.int;obtain ⟨a11,rfl,g11,k11⟩ := h11.sl;obtain ⟨a12,rfl,g12,k12⟩ := h12.sl;obtain ⟨a13,rfl⟩ := h13.bool;obtain ⟨a14,rfl,g14,k14⟩ := h14.sl;obtain ⟨a15,rfl,g15,k15⟩ := h15.sl;obtain ⟨a16,rfl,g16,k16⟩ := h16.sl;exact ⟨⟨a0,a1,a2,a3,a4,a5,a6,a7,a8,a9,a10,some a11,some a12,a13,some a14,some a15,some a16⟩,rfl,g0,g1,g2,g3,g4,g5,g6,g7,g8,g10,⟨a11,rfl⟩,⟨a12,rfl⟩,⟨a14,rfl,g14,k14⟩,⟨a15,rfl,g15,k15⟩,⟨a16,rfl,g16,k16⟩⟩
 | .fam,us,h => by
  obtain ⟨u0,us,rfl,h0,h⟩ := h.uncons;obtain ⟨u1,us,rfl,h1,h⟩ := h.uncons;obtain rfl := h.unnil;obtain ⟨a0,rfl,g0⟩ := h0.int;obtain ⟨a1,rfl,g1,k1⟩ := h1.sl;exact ⟨⟨a0,some a1⟩,rfl,g0,⟨a1,rfl,g1,k1⟩⟩
 | .rolled,us,h => by
  obtain ⟨u0,us,rfl,h0,h⟩ := h.uncons;obtain ⟨u1,us,rfl,h1,h⟩ := h.uncons;obtain rfl := h.unnil;obtain ⟨a0,rfl,g0,k0⟩ := h0.sl;obtain ⟨a1,rfl,g1⟩ := h1.int;exact ⟨⟨some a0,a1⟩,rfl,⟨a0,rfl,g0,k0⟩,g1⟩
noncomputable def RT (N : Nat) : Reads S where
 N := N
 good := goodT N
 kinds := kindsT
 lay k := by cases k <;> kernel_rfl
 make := makeT N
end Sh
end Go.Proofs.YtomdfaelgcefdaaGreatDoor
namespace Go.Proofs
open Go.Shelf Go.RowKit Go.Sort Go.Lib
def Tryz.lays283_ren : Go.Shelf.Ren := ⟨fun | 283 => 271 | n => n,fun | 3 => 3 | 9 => 9 | 4 => 4 | n => n,fun | n => n⟩
theorem Tryz.lays283 : Go.Proofs.Lays.n283 Tryz.prog Tryz.lays283_ren := {
 mixed := by kernel_rfl
 f283 := Tryz.func271.trans (congrArg some (by kernel_rfl))
 t3 := Tryz.underlying3
 a3 := Tryz.isAgg3
 z3 := Tryz.sizeOf3
 v3 := Tryz.zeroValue3
 t4 := Tryz.underlying4
 a4 := Tryz.isAgg4
 z4 := Tryz.sizeOf4
 v4 := Tryz.zeroValue4
 t9 := Tryz.underlying9
 a9 := Tryz.isAgg9
 z9 := Tryz.sizeOf9
 v9 := Tryz.zeroValue9 }
theorem Tryz.internal_strconv_small (i : Nat) (h : i < 100) (w : World) :
    Calls Tryz.prog 271 #[.int .i64 i] w fun e w' => e = .returned (.string ⟨(Lib.decDigits i).toArray⟩) ∧ w' = w := Any.internal_strconv_small Tryz.lays283 i h w
def Tryz.laysM284_ren : Go.Shelf.Ren := ⟨fun | 284 => 272 | 129 => 277 | 317 => 276 | 318 => 278 | n => n,fun | 53 => 63 | 3 => 3 | 212 => 333 | 0 => 0 | 4 => 4 | 46 => 209 | 5 => 5 | 9 => 9 | n => n,fun | 17 => 3 | n => n⟩
theorem Tryz.laysM284 : Go.Proofs.LaysM.n284 Tryz.prog Tryz.laysM284_ren := {
 mixed := by kernel_rfl
 f129 := Tryz.func277.trans (congrArg some (by kernel_rfl))
 f284 := Tryz.func272.trans (congrArg some (by kernel_rfl))
 f317 := Tryz.func276.trans (congrArg some (by kernel_rfl))
 f318 := Tryz.func278.trans (congrArg some (by kernel_rfl))
 t0 := Tryz.underlying0
 a0 := Tryz.isAgg0
 z0 := Tryz.sizeOf0
 v0 := Tryz.zeroValue0
 t3 := Tryz.underlying3
 a3 := Tryz.isAgg3
 z3 := Tryz.sizeOf3
 v3 := Tryz.zeroValue3
 t4 := Tryz.underlying4
 a4 := Tryz.isAgg4
 z4 := Tryz.sizeOf4
 v4 := Tryz.zeroValue4
 t5 := Tryz.underlying5
 a5 := Tryz.isAgg5
 z5 := Tryz.sizeOf5
 v5 := Tryz.zeroValue5
 t9 := Tryz.underlying9
 a9 := Tryz.isAgg9
 z9 := Tryz.sizeOf9
 v9 := Tryz.zeroValue9
 t46 := Tryz.underlying209
 a46 := Tryz.isAgg209
 z46 := Tryz.sizeOf209
 v46 := Tryz.zeroValue209
 t53 := Tryz.underlying63
 a53 := Tryz.isAgg63
 z53 := Tryz.sizeOf63
 v53 := Tryz.zeroValue63
 t212 := Tryz.underlying333
 a212 := Tryz.isAgg333
 z212 := Tryz.sizeOf333
 v212 := Tryz.zeroValue333
 g17 := by kernel_rfl
 i0 := by kernel_rfl
 i3 := by kernel_rfl
 i4 := by kernel_rfl
 i5 := by kernel_rfl
 i9 := by kernel_rfl
 i46 := by kernel_rfl
 i53 := by kernel_rfl
 i212 := by kernel_rfl
 m17 := by kernel_rfl }
theorem Tryz.internal_strconv_numDigits (u : Nat) (h1 : 1 ≤ u) (h2 : u < 18446744073709551616) (w : World) (htab : Lib.TabIs Tryz.prog w "internal/strconv.uint64pow10" .u64 Lib.pow10Tab) :
    Calls Tryz.prog 272 #[.int .u64 u] w fun e w' => e = .returned (.int .i64 (Lib.nDigits u)) ∧ w' = w := Any.internal_strconv_numDigits Tryz.laysM284 u h1 h2 w htab
def Tryz.lays285_ren : Go.Shelf.Ren := ⟨fun | 285 => 273 | n => n,fun | 37 => 287 | 53 => 63 | 3 => 3 | 4 => 4 | 51 => 27 | 9 => 9 | 5 => 5 | 0 => 0 | n => n,fun | n => n⟩
theorem Tryz.lays285 : Go.Proofs.Lays.n285 Tryz.prog Tryz.lays285_ren := {
 mixed := by kernel_rfl
 f285 := Tryz.func273.trans (congrArg some (by kernel_rfl))
 t0 := Tryz.underlying0
 a0 := Tryz.isAgg0
 z0 := Tryz.sizeOf0
 v0 := Tryz.zeroValue0
 t3 := Tryz.underlying3
 a3 := Tryz.isAgg3
 z3 := Tryz.sizeOf3
 v3 := Tryz.zeroValue3
 t4 := Tryz.underlying4
 a4 := Tryz.isAgg4
 z4 := Tryz.sizeOf4
 v4 := Tryz.zeroValue4
 t5 := Tryz.underlying5
 a5 := Tryz.isAgg5
 z5 := Tryz.sizeOf5
 v5 := Tryz.zeroValue5
 t9 := Tryz.underlying9
 a9 := Tryz.isAgg9
 z9 := Tryz.sizeOf9
 v9 := Tryz.zeroValue9
 t37 := Tryz.underlying287
 a37 := Tryz.isAgg287
 z37 := Tryz.sizeOf287
 v37 := Tryz.zeroValue287
 t51 := Tryz.underlying27
 a51 := Tryz.isAgg27
 z51 := Tryz.sizeOf27
 v51 := Tryz.zeroValue27
 t53 := Tryz.underlying63
 a53 := Tryz.isAgg63
 z53 := Tryz.sizeOf63
 v53 := Tryz.zeroValue63 }
theorem Tryz.internal_strconv_formatBase10 (blk off cap : Nat) (u : Nat) (d : Array UInt8) (w : World) (hH : Holds (fun (b : UInt8) => Value.int .u8 (b.toNat : Int)) w blk off d) (hu : u < 10 ^ d.size) (hu64 : u < 18446744073709551616) (hsz : d.size < 4611686018427387904) :
    Calls Tryz.prog 273 #[.slice (some ⟨blk,off,none⟩) d.size cap,.int .u64 u] w fun e w' =>
     e = .returned (.tuple #[]) ∧ ∃ (n v' : Nat) (dk : Array UInt8),w' = (putRow (fun (b : UInt8) => Value.int .u8 (b.toNat : Int)) w blk off dk).drewN n ∧ FmtInv d.size u 0 v' dk := Any.internal_strconv_formatBase10 Tryz.lays285 blk off cap u d w hH hu hu64 hsz
open Go.RowKit Go.Lib in
def Tryz.lays212_ren : Go.Shelf.Ren := ⟨fun | 212 => 153 | 263 => 184 | 264 => 185 | n => n,fun | 46 => 209 | 51 => 27 | 146 => 237 | 53 => 63 | 148 => 239 | n => n,fun | n => n⟩
theorem Tryz.lays212 : Go.Proofs.Lays.n212 Tryz.prog Tryz.lays212_ren := {
 mixed := by kernel_rfl
 f212 := Tryz.func153.trans (congrArg some (by kernel_rfl))
 f263 := Tryz.func184.trans (congrArg some (by kernel_rfl))
 f264 := Tryz.func185.trans (congrArg some (by kernel_rfl))
 t46 := Tryz.underlying209
 a46 := Tryz.isAgg209
 z46 := Tryz.sizeOf209
 v46 := Tryz.zeroValue209
 t51 := Tryz.underlying27
 a51 := Tryz.isAgg27
 z51 := Tryz.sizeOf27
 v51 := Tryz.zeroValue27
 t53 := Tryz.underlying63
 a53 := Tryz.isAgg63
 z53 := Tryz.sizeOf63
 v53 := Tryz.zeroValue63
 t146 := Tryz.underlying237
 a146 := Tryz.isAgg237
 z146 := Tryz.sizeOf237
 v146 := Tryz.zeroValue237
 t148 := Tryz.underlying239
 a148 := Tryz.isAgg239
 z148 := Tryz.sizeOf239
 v148 := Tryz.zeroValue239 }
theorem Tryz.bits_Mul (x y : Nat) (hx : x < 18446744073709551616) (hy : y < 18446744073709551616) (w : World) :
    Calls Tryz.prog 153 #[.int .u64 x,.int .u64 y] w fun e w' => e = .returned (.tuple #[.int .u64 ((x * y / 18446744073709551616 : Nat) : Int),.int .u64 ((x * y % 18446744073709551616 : Nat) : Int)]) ∧ w' = w := Any.bits_Mul Tryz.lays212 x y hx hy w
end Go.Proofs
