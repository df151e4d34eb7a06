/- MADE BY PROGRAM (seat2.py): the element types of this seat, and that they are what the program says. -/
import Derived.Test.YtlnloekadohddaaDoorSh18
import Derived.Test.YtlnloekadohddaaDoorProg
namespace Go.Proofs.YtlnloekadohddaaDoor
open Go
namespace Sh

structure El_vt where
  num : Int
  null : Bool
  heap : Int

structure El_fld where
  num : Int
  null : Bool
  heap : Int
  mu : Bool

structure El_sub where
  final : Bool
  supers : Option (List Int)
  kind : Int
  params : Option (List El_vt)
  results : Option (List El_vt)
  fields : Option (List El_fld)

structure El_grp where
  types : Option (List El_sub)
  explicit : Bool

structure El_frame where
  op : Int
  inn : Option (List El_vt)
  out : Option (List El_vt)
  height : Int
  sets : Option (List Bool)
  dead : Bool

structure El_rframe where
  op : Int
  inn : Option (List El_vt)
  out : Option (List El_vt)
  height : Int
  sets : Option (List Bool)
  dead : Bool

inductive KT where
  | vt
  | int
  | bool
  | u32
  | err
  | fld
  | sub
  | grp
  | frame
  | rframe
  deriving DecidableEq

abbrev ElT : KT → Type
  | .vt => El_vt
  | .int => Int
  | .bool => Bool
  | .u32 => Int
  | .err => Int
  | .fld => El_fld
  | .sub => El_sub
  | .grp => El_grp
  | .frame => El_frame
  | .rframe => El_rframe

abbrev V := AV KT ElT

/-- A slice in a struct: nil, or of these. -/
def slO (k : KT) : Option (List (ElT k)) → V
  | none => .nils
  | some l => .imm k l

def unO (k : KT) : V → Option (Option (List (ElT k)))
  | .nils => some none
  | .imm k' l => match decEq k' k with
    | isTrue h => some (some (h ▸ l))
    | isFalse _ => none
  | _ => none

theorem unO_eq {k : KT} {v : V} {o : Option (List (ElT k))} (h : unO k v = some o) : slO k o = v := by
  unfold unO at h
  split at h
  · cases h; rfl
  · split at h
    · rename_i hk _
      subst hk
      cases h; rfl
    · cases h
  · cases h

theorem slO_one (k : KT) (o : Option (List (ElT k))) : (slO k o).one = true := by cases o <;> rfl
theorem slO_free (k : KT) (o : Option (List (ElT k))) : (slO k o).free = true := by cases o <;> rfl

def enc_vt (x : El_vt) : List V := [.int .i64 x.num, .bool x.null, .int .i64 x.heap]

def unc_vt : List V → Option El_vt
  | [.int .i64 a0, .bool a1, .int .i64 a2] => some ⟨a0, a1, a2⟩
  | _ => none

theorem unc_enc_vt {vs : List V} {x : ElT .vt} (h : unc_vt vs = some x) : enc_vt x = vs := by
  unfold unc_vt at h
  split at h
  · cases h; rfl
  · cases h

def enc_int (x : Int) : List V := [.int .i64 x]

def unc_int : List V → Option Int
  | [.int .i64 a0] => some a0
  | _ => none

theorem unc_enc_int {vs : List V} {x : ElT .int} (h : unc_int vs = some x) : enc_int x = vs := by
  unfold unc_int at h
  split at h
  · cases h; rfl
  · cases h

def enc_bool (x : Bool) : List V := [.bool x]

def unc_bool : List V → Option Bool
  | [.bool a0] => some a0
  | _ => none

theorem unc_enc_bool {vs : List V} {x : ElT .bool} (h : unc_bool vs = some x) : enc_bool x = vs := by
  unfold unc_bool at h
  split at h
  · cases h; rfl
  · cases h

def enc_u32 (x : Int) : List V := [.int .u32 x]

def unc_u32 : List V → Option Int
  | [.int .u32 a0] => some a0
  | _ => none

theorem unc_enc_u32 {vs : List V} {x : ElT .u32} (h : unc_u32 vs = some x) : enc_u32 x = vs := by
  unfold unc_u32 at h
  split at h
  · cases h; rfl
  · cases h

def enc_err (x : Int) : List V := [.int .i64 x]

def unc_err : List V → Option Int
  | [.int .i64 a0] => some a0
  | _ => none

theorem unc_enc_err {vs : List V} {x : ElT .err} (h : unc_err vs = some x) : enc_err x = vs := by
  unfold unc_err at h
  split at h
  · cases h; rfl
  · cases h

def enc_fld (x : El_fld) : List V := [.int .i64 x.num, .bool x.null, .int .i64 x.heap, .bool x.mu]

def unc_fld : List V → Option El_fld
  | [.int .i64 a0, .bool a1, .int .i64 a2, .bool a3] => some ⟨a0, a1, a2, a3⟩
  | _ => none

theorem unc_enc_fld {vs : List V} {x : ElT .fld} (h : unc_fld vs = some x) : enc_fld x = vs := by
  unfold unc_fld at h
  split at h
  · cases h; rfl
  · cases h

def enc_sub (x : El_sub) : List V := [.bool x.final, slO .int x.supers, .int .i64 x.kind, slO .vt x.params, slO .vt x.results, slO .fld x.fields]

def unc_sub : List V → Option El_sub
  | [.bool a0, a1, .int .i64 a2, a3, a4, a5] => match unO .int a1, unO .vt a3, unO .vt a4, unO .fld a5 with
    | some b1, some b3, some b4, some b5 => some ⟨a0, b1, a2, b3, b4, b5⟩
    | _, _, _, _ => none
  | _ => none

theorem unc_enc_sub {vs : List V} {x : ElT .sub} (h : unc_sub vs = some x) : enc_sub x = vs := by
  unfold unc_sub at h
  split at h
  · split at h
    · rename_i h1 h3 h4 h5
      cases h
      simp only [enc_sub, unO_eq h1, unO_eq h3, unO_eq h4, unO_eq h5]
    · cases h
  · cases h

def enc_grp (x : El_grp) : List V := [slO .sub x.types, .bool x.explicit]

def unc_grp : List V → Option El_grp
  | [a0, .bool a1] => match unO .sub a0 with
    | some b0 => some ⟨b0, a1⟩
    | _ => none
  | _ => none

theorem unc_enc_grp {vs : List V} {x : ElT .grp} (h : unc_grp vs = some x) : enc_grp x = vs := by
  unfold unc_grp at h
  split at h
  · split at h
    · rename_i h0
      cases h
      simp only [enc_grp, unO_eq h0]
    · cases h
  · cases h

def enc_frame (x : El_frame) : List V := [.int .i64 x.op, slO .vt x.inn, slO .vt x.out, .int .i64 x.height, slO .bool x.sets, .bool x.dead]

def unc_frame : List V → Option El_frame
  | [.int .i64 a0, a1, a2, .int .i64 a3, a4, .bool a5] => match unO .vt a1, unO .vt a2, unO .bool a4 with
    | some b1, some b2, some b4 => some ⟨a0, b1, b2, a3, b4, a5⟩
    | _, _, _ => none
  | _ => none

theorem unc_enc_frame {vs : List V} {x : ElT .frame} (h : unc_frame vs = some x) : enc_frame x = vs := by
  unfold unc_frame at h
  split at h
  · split at h
    · rename_i h1 h2 h4
      cases h
      simp only [enc_frame, unO_eq h1, unO_eq h2, unO_eq h4]
    · cases h
  · cases h

def enc_rframe (x : El_rframe) : List V := [.int .i64 x.op, slO .vt x.inn, slO .vt x.out, .int .i64 x.height, slO .bool x.sets, .bool x.dead]

def unc_rframe : List V → Option El_rframe
  | [.int .i64 a0, a1, a2, .int .i64 a3, a4, .bool a5] => match unO .vt a1, unO .vt a2, unO .bool a4 with
    | some b1, some b2, some b4 => some ⟨a0, b1, b2, a3, b4, a5⟩
    | _, _, _ => none
  | _ => none

theorem unc_enc_rframe {vs : List V} {x : ElT .rframe} (h : unc_rframe vs = some x) : enc_rframe x = vs := by
  unfold unc_rframe at h
  split at h
  · split at h
    · rename_i h1 h2 h4
      cases h
      simp only [enc_rframe, unO_eq h1, unO_eq h2, unO_eq h4]
    · cases h
  · cases h

def encT : (k : KT) → ElT k → List V
  | .vt, x => enc_vt x
  | .int, x => enc_int x
  | .bool, x => enc_bool x
  | .u32, x => enc_u32 x
  | .err, x => enc_err x
  | .fld, x => enc_fld x
  | .sub, x => enc_sub x
  | .grp, x => enc_grp x
  | .frame, x => enc_frame x
  | .rframe, x => enc_rframe x

def uncT : (k : KT) → List V → Option (ElT k)
  | .vt, vs => unc_vt vs
  | .int, vs => unc_int vs
  | .bool, vs => unc_bool vs
  | .u32, vs => unc_u32 vs
  | .err, vs => unc_err vs
  | .fld, vs => unc_fld vs
  | .sub, vs => unc_sub vs
  | .grp, vs => unc_grp vs
  | .frame, vs => unc_frame vs
  | .rframe, vs => unc_rframe vs

def zeroT : (k : KT) → ElT k
  | .vt => ⟨0, false, 0⟩
  | .int => (0 : Int)
  | .bool => (false : Bool)
  | .u32 => (0 : Int)
  | .err => (0 : Int)
  | .fld => ⟨0, false, 0, false⟩
  | .sub => ⟨false, none, 0, none, none, none⟩
  | .grp => ⟨none, false⟩
  | .frame => ⟨0, none, none, 0, none, false⟩
  | .rframe => ⟨0, none, none, 0, none, false⟩

noncomputable def S : Seat KT ElT where
  P := Tryd.prog
  dec := inferInstance
  size | .vt => 3 | .int => 1 | .bool => 1 | .u32 => 1 | .err => 1 | .fld => 4 | .sub => 6 | .grp => 2 | .frame => 6 | .rframe => 6
  bytes | .vt => 24 | .int => 8 | .bool => 1 | .u32 => 4 | .err => 8 | .fld => 32 | .sub => 112 | .grp => 32 | .frame => 96 | .rframe => 96
  ty | .vt => 44 | .int => 3 | .bool => 4 | .u32 => 47 | .err => 30 | .fld => 95 | .sub => 90 | .grp => 83 | .frame => 64 | .rframe => 75
  enc := encT
  unc := uncT
  zero := zeroT
  kd | 44 => some .vt | 3 => some .int | 4 => some .bool | 47 => some .u32 | 30 => some .err | 95 => some .fld | 90 => some .sub | 83 => some .grp | 64 => some .frame | 75 => some .rframe | _ => none
  flat | .sub => false | .grp => false | .frame => false | .rframe => false | _ => true

theorem allP {p : V → Bool} {l : List V} (h : l.all p = true) (u : V) (hu : u ∈ l) : p u = true := List.all_eq_true.1 h u hu

theorem info_of {t sz by_ : Nat} {zs : List V} (h : (Tryd.prog.info? t).map (fun i => (i.size, i.bytes, i.zero.map fun z => (z.cells.size, (z.cells.toList.mapM constAV : Option (List V))))) = some (sz, by_, some (sz, some zs))) :
    ∃ i z, Tryd.prog.info? t = some i ∧ i.size = sz ∧ i.zero = some z ∧ z.cells.size = sz ∧ i.bytes = by_ ∧ (z.cells.toList.mapM constAV : Option (List V)) = some zs := by
  cases hi : Tryd.prog.info? t with
  | none => rw [hi] at h; simp at h
  | some i =>
    rw [hi] at h
    simp only [Option.map_some, Option.some.injEq, Prod.mk.injEq] at h
    obtain ⟨h1, h2, h3⟩ := h
    cases hz : i.zero with
    | none => rw [hz] at h3; simp at h3
    | some z =>
      rw [hz] at h3
      simp only [Option.map_some, Option.some.injEq, Prod.mk.injEq] at h3
      exact ⟨i, z, rfl, h1, hz, h3.1, h2, h3.2⟩

theorem ok : Ok S where
  enc_len k x := by cases k <;> rfl
  unc_enc k vs x h := by
    cases k
    · exact unc_enc_vt h
    · exact unc_enc_int h
    · exact unc_enc_bool h
    · exact unc_enc_u32 h
    · exact unc_enc_err h
    · exact unc_enc_fld h
    · exact unc_enc_sub h
    · exact unc_enc_grp h
    · exact unc_enc_frame h
    · exact unc_enc_rframe h
  one k x u h := by
    cases k
    · exact allP (p := AV.one) rfl u h
    · exact allP (p := AV.one) rfl u h
    · exact allP (p := AV.one) rfl u h
    · exact allP (p := AV.one) rfl u h
    · exact allP (p := AV.one) rfl u h
    · exact allP (p := AV.one) rfl u h
    · exact allP (p := AV.one) (by simp only [S, encT, enc_sub, List.all_cons, List.all_nil, slO_one]; rfl) u h
    · exact allP (p := AV.one) (by simp only [S, encT, enc_grp, List.all_cons, List.all_nil, slO_one]; rfl) u h
    · exact allP (p := AV.one) (by simp only [S, encT, enc_frame, List.all_cons, List.all_nil, slO_one]; rfl) u h
    · exact allP (p := AV.one) (by simp only [S, encT, enc_rframe, List.all_cons, List.all_nil, slO_one]; rfl) u h
  free k x u h := by
    cases k
    · exact allP (p := AV.free) rfl u h
    · exact allP (p := AV.free) rfl u h
    · exact allP (p := AV.free) rfl u h
    · exact allP (p := AV.free) rfl u h
    · exact allP (p := AV.free) rfl u h
    · exact allP (p := AV.free) rfl u h
    · exact allP (p := AV.free) (by simp only [S, encT, enc_sub, List.all_cons, List.all_nil, slO_free]; rfl) u h
    · exact allP (p := AV.free) (by simp only [S, encT, enc_grp, List.all_cons, List.all_nil, slO_free]; rfl) u h
    · exact allP (p := AV.free) (by simp only [S, encT, enc_frame, List.all_cons, List.all_nil, slO_free]; rfl) u h
    · exact allP (p := AV.free) (by simp only [S, encT, enc_rframe, List.all_cons, List.all_nil, slO_free]; rfl) u h
  flat k x hf u hu := by
    cases k
    · exact allP (p := pure1) rfl u hu
    · exact allP (p := pure1) rfl u hu
    · exact allP (p := pure1) rfl u hu
    · exact allP (p := pure1) rfl u hu
    · exact allP (p := pure1) rfl u hu
    · exact allP (p := pure1) rfl u hu
    · cases hf
    · cases hf
    · cases hf
    · cases hf
  pos k := by cases k <;> decide
  info k := by
    cases k
    · exact info_of (by kernel_rfl)
    · exact info_of (by kernel_rfl)
    · exact info_of (by kernel_rfl)
    · exact info_of (by kernel_rfl)
    · exact info_of (by kernel_rfl)
    · exact info_of (by kernel_rfl)
    · exact info_of (by kernel_rfl)
    · exact info_of (by kernel_rfl)
    · exact info_of (by kernel_rfl)
    · exact info_of (by kernel_rfl)
  kd t k h := by
    simp only [S] at h
    split at h <;> first | (cases h; rfl) | (cases h; done)
  mixed := by kernel_rfl
  keep _ _ _ h := h

end Sh
end Go.Proofs.YtlnloekadohddaaDoor
