/- MADE BY PROGRAM (seat2.py): the element types of this seat, and that they are what the program says. -/
import Derived.Test.YtjmcnobglookpaaSh18
import Derived.Test.YtjmcnobglookpaaProg
namespace Go.Proofs.Ytjmcnobglookpaa
open Go
namespace Sh

structure El_vt where
  num : Int
  null : Bool
  heap : Int

structure El_catch where
  kind : Int
  tag : Int
  label : Int

structure El_glob where
  num : Int
  null : Bool
  heap : Int
  mu : Bool

structure El_row where
  first : Int
  many : Int
  head : ByteArray
  names : ByteArray
  form : Int

structure El_known where
  op : Int
  name : ByteArray
  form : Int

structure El_instr where
  op : Int
  x : Int
  y : Int
  n : Int
  al : Int
  me : Int
  off : Int
  bt : Int
  bn : Int
  bl : Bool
  bh : Int
  body : Option (List El_instr)
  els : Option (List El_instr)
  he : Bool
  la : Option (List Int)
  ty : Option (List El_vt)
  ca : Option (List El_catch)

inductive KT where
  | int
  | u32
  | vt
  | catch
  | glob
  | row
  | known
  | instr
  deriving DecidableEq

abbrev ElT : KT → Type
  | .int => Int
  | .u32 => Int
  | .vt => El_vt
  | .catch => El_catch
  | .glob => El_glob
  | .row => El_row
  | .known => El_known
  | .instr => El_instr

abbrev V := AV KT ElT

/-- A slice in a struct: nil, or of these. -/
def slO (k : KT) : Option (List (ElT k)) → V
  | none => .nils
  | some l => .imm k l

def unO (k : KT) : V → Option (Option (List (ElT k)))
  | .nils => some none
  | .imm k' l => match decEq k' k with
    | isTrue h => some (some (h ▸ l))
    | isFalse _ => none
  | _ => none

theorem unO_eq {k : KT} {v : V} {o : Option (List (ElT k))} (h : unO k v = some o) : slO k o = v := by
  unfold unO at h
  split at h
  · cases h; rfl
  · split at h
    · rename_i hk _
      subst hk
      cases h; rfl
    · cases h
  · cases h

theorem slO_one (k : KT) (o : Option (List (ElT k))) : (slO k o).one = true := by cases o <;> rfl
theorem slO_free (k : KT) (o : Option (List (ElT k))) : (slO k o).free = true := by cases o <;> rfl

def enc_int (x : Int) : List V := [.int .i64 x]

def unc_int : List V → Option Int
  | [.int .i64 a0] => some a0
  | _ => none

theorem unc_enc_int {vs : List V} {x : ElT .int} (h : unc_int vs = some x) : enc_int x = vs := by
  unfold unc_int at h
  split at h
  · cases h; rfl
  · cases h

def enc_u32 (x : Int) : List V := [.int .u32 x]

def unc_u32 : List V → Option Int
  | [.int .u32 a0] => some a0
  | _ => none

theorem unc_enc_u32 {vs : List V} {x : ElT .u32} (h : unc_u32 vs = some x) : enc_u32 x = vs := by
  unfold unc_u32 at h
  split at h
  · cases h; rfl
  · cases h

def enc_vt (x : El_vt) : List V := [.int .i64 x.num, .bool x.null, .int .i64 x.heap]

def unc_vt : List V → Option El_vt
  | [.int .i64 a0, .bool a1, .int .i64 a2] => some ⟨a0, a1, a2⟩
  | _ => none

theorem unc_enc_vt {vs : List V} {x : ElT .vt} (h : unc_vt vs = some x) : enc_vt x = vs := by
  unfold unc_vt at h
  split at h
  · cases h; rfl
  · cases h

def enc_catch (x : El_catch) : List V := [.int .i64 x.kind, .int .u32 x.tag, .int .u32 x.label]

def unc_catch : List V → Option El_catch
  | [.int .i64 a0, .int .u32 a1, .int .u32 a2] => some ⟨a0, a1, a2⟩
  | _ => none

theorem unc_enc_catch {vs : List V} {x : ElT .catch} (h : unc_catch vs = some x) : enc_catch x = vs := by
  unfold unc_catch at h
  split at h
  · cases h; rfl
  · cases h

def enc_glob (x : El_glob) : List V := [.int .i64 x.num, .bool x.null, .int .i64 x.heap, .bool x.mu]

def unc_glob : List V → Option El_glob
  | [.int .i64 a0, .bool a1, .int .i64 a2, .bool a3] => some ⟨a0, a1, a2, a3⟩
  | _ => none

theorem unc_enc_glob {vs : List V} {x : ElT .glob} (h : unc_glob vs = some x) : enc_glob x = vs := by
  unfold unc_glob at h
  split at h
  · cases h; rfl
  · cases h

def enc_row (x : El_row) : List V := [.int .i64 x.first, .int .i64 x.many, .str x.head, .str x.names, .int .i64 x.form]

def unc_row : List V → Option El_row
  | [.int .i64 a0, .int .i64 a1, .str a2, .str a3, .int .i64 a4] => some ⟨a0, a1, a2, a3, a4⟩
  | _ => none

theorem unc_enc_row {vs : List V} {x : ElT .row} (h : unc_row vs = some x) : enc_row x = vs := by
  unfold unc_row at h
  split at h
  · cases h; rfl
  · cases h

def enc_known (x : El_known) : List V := [.int .i64 x.op, .str x.name, .int .i64 x.form]

def unc_known : List V → Option El_known
  | [.int .i64 a0, .str a1, .int .i64 a2] => some ⟨a0, a1, a2⟩
  | _ => none

theorem unc_enc_known {vs : List V} {x : ElT .known} (h : unc_known vs = some x) : enc_known x = vs := by
  unfold unc_known at h
  split at h
  · cases h; rfl
  · cases h

def enc_instr (x : El_instr) : List V := [.int .i64 x.op, .int .u32 x.x, .int .u32 x.y, .int .u64 x.n, .int .u32 x.al, .int .u32 x.me, .int .u64 x.off, .int .i64 x.bt, .int .i64 x.bn, .bool x.bl, .int .i64 x.bh, slO .instr x.body, slO .instr x.els, .bool x.he, slO .u32 x.la, slO .vt x.ty, slO .catch x.ca]

def unc_instr : List V → Option El_instr
  | [.int .i64 a0, .int .u32 a1, .int .u32 a2, .int .u64 a3, .int .u32 a4, .int .u32 a5, .int .u64 a6, .int .i64 a7, .int .i64 a8, .bool a9, .int .i64 a10, a11, a12, .bool a13, a14, a15, a16] => match unO .instr a11, unO .instr a12, unO .u32 a14, unO .vt a15, unO .catch a16 with
    | some b11, some b12, some b14, some b15, some b16 => some ⟨a0, a1, a2, a3, a4, a5, a6, a7, a8, a9, a10, b11, b12, a13, b14, b15, b16⟩
    | _, _, _, _, _ => none
  | _ => none

theorem unc_enc_instr {vs : List V} {x : ElT .instr} (h : unc_instr vs = some x) : enc_instr x = vs := by
  unfold unc_instr at h
  split at h
  · split at h
    · rename_i h11 h12 h14 h15 h16
      cases h
      simp only [enc_instr, unO_eq h11, unO_eq h12, unO_eq h14, unO_eq h15, unO_eq h16]
    · cases h
  · cases h

def encT : (k : KT) → ElT k → List V
  | .int, x => enc_int x
  | .u32, x => enc_u32 x
  | .vt, x => enc_vt x
  | .catch, x => enc_catch x
  | .glob, x => enc_glob x
  | .row, x => enc_row x
  | .known, x => enc_known x
  | .instr, x => enc_instr x

def uncT : (k : KT) → List V → Option (ElT k)
  | .int, vs => unc_int vs
  | .u32, vs => unc_u32 vs
  | .vt, vs => unc_vt vs
  | .catch, vs => unc_catch vs
  | .glob, vs => unc_glob vs
  | .row, vs => unc_row vs
  | .known, vs => unc_known vs
  | .instr, vs => unc_instr vs

def zeroT : (k : KT) → ElT k
  | .int => (0 : Int)
  | .u32 => (0 : Int)
  | .vt => ⟨0, false, 0⟩
  | .catch => ⟨0, 0, 0⟩
  | .glob => ⟨0, false, 0, false⟩
  | .row => ⟨0, 0, ByteArray.empty, ByteArray.empty, 0⟩
  | .known => ⟨0, ByteArray.empty, 0⟩
  | .instr => ⟨0, 0, 0, 0, 0, 0, 0, 0, 0, false, 0, none, none, false, none, none, none⟩

noncomputable def S : Seat KT ElT where
  P := Try.prog
  dec := inferInstance
  size | .int => 1 | .u32 => 1 | .vt => 3 | .catch => 3 | .glob => 4 | .row => 5 | .known => 3 | .instr => 17
  bytes | .int => 8 | .u32 => 4 | .vt => 24 | .catch => 16 | .glob => 32 | .row => 56 | .known => 32 | .instr => 200
  ty | .int => 3 | .u32 => 41 | .vt => 46 | .catch => 88 | .glob => 55 | .row => 63 | .known => 59 | .instr => 52
  enc := encT
  unc := uncT
  zero := zeroT
  kd | 3 => some .int | 41 => some .u32 | 46 => some .vt | 88 => some .catch | 55 => some .glob | 63 => some .row | 59 => some .known | 52 => some .instr | _ => none
  flat | .instr => false | _ => true

theorem allP {p : V → Bool} {l : List V} (h : l.all p = true) (u : V) (hu : u ∈ l) : p u = true := List.all_eq_true.1 h u hu

theorem info_of {t sz by_ : Nat} {zs : List V} (h : (Try.prog.info? t).map (fun i => (i.size, i.bytes, i.zero.map fun z => (z.cells.size, (z.cells.toList.mapM constAV : Option (List V))))) = some (sz, by_, some (sz, some zs))) :
    ∃ i z, Try.prog.info? t = some i ∧ i.size = sz ∧ i.zero = some z ∧ z.cells.size = sz ∧ i.bytes = by_ ∧ (z.cells.toList.mapM constAV : Option (List V)) = some zs := by
  cases hi : Try.prog.info? t with
  | none => rw [hi] at h; simp at h
  | some i =>
    rw [hi] at h
    simp only [Option.map_some, Option.some.injEq, Prod.mk.injEq] at h
    obtain ⟨h1, h2, h3⟩ := h
    cases hz : i.zero with
    | none => rw [hz] at h3; simp at h3
    | some z =>
      rw [hz] at h3
      simp only [Option.map_some, Option.some.injEq, Prod.mk.injEq] at h3
      exact ⟨i, z, rfl, h1, hz, h3.1, h2, h3.2⟩

theorem ok : Ok S where
  enc_len k x := by cases k <;> rfl
  unc_enc k vs x h := by
    cases k
    · exact unc_enc_int h
    · exact unc_enc_u32 h
    · exact unc_enc_vt h
    · exact unc_enc_catch h
    · exact unc_enc_glob h
    · exact unc_enc_row h
    · exact unc_enc_known h
    · exact unc_enc_instr h
  one k x u h := by
    cases k
    · exact allP (p := AV.one) rfl u h
    · exact allP (p := AV.one) rfl u h
    · exact allP (p := AV.one) rfl u h
    · exact allP (p := AV.one) rfl u h
    · exact allP (p := AV.one) rfl u h
    · exact allP (p := AV.one) rfl u h
    · exact allP (p := AV.one) rfl u h
    · exact allP (p := AV.one) (by simp only [S, encT, enc_instr, List.all_cons, List.all_nil, slO_one]; rfl) u h
  free k x u h := by
    cases k
    · exact allP (p := AV.free) rfl u h
    · exact allP (p := AV.free) rfl u h
    · exact allP (p := AV.free) rfl u h
    · exact allP (p := AV.free) rfl u h
    · exact allP (p := AV.free) rfl u h
    · exact allP (p := AV.free) rfl u h
    · exact allP (p := AV.free) rfl u h
    · exact allP (p := AV.free) (by simp only [S, encT, enc_instr, List.all_cons, List.all_nil, slO_free]; rfl) u h
  flat k x hf u hu := by
    cases k
    · exact allP (p := pure1) rfl u hu
    · exact allP (p := pure1) rfl u hu
    · exact allP (p := pure1) rfl u hu
    · exact allP (p := pure1) rfl u hu
    · exact allP (p := pure1) rfl u hu
    · exact allP (p := pure1) rfl u hu
    · exact allP (p := pure1) rfl u hu
    · cases hf
  pos k := by cases k <;> decide
  info k := by
    cases k
    · exact info_of (by kernel_rfl)
    · exact info_of (by kernel_rfl)
    · exact info_of (by kernel_rfl)
    · exact info_of (by kernel_rfl)
    · exact info_of (by kernel_rfl)
    · exact info_of (by kernel_rfl)
    · exact info_of (by kernel_rfl)
    · exact info_of (by kernel_rfl)
  kd t k h := by
    simp only [S] at h
    split at h <;> first | (cases h; rfl) | (cases h; done)
  mixed := by kernel_rfl
  keep _ _ _ h := h

end Sh
end Go.Proofs.Ytjmcnobglookpaa
