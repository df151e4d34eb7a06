/- Seat. -/
import Derived.Test.YtomdfaelgcefdaaGreatDoorProg
import Derived.Lib.AppendIntMem
import Derived.Test.YtomdfaelgcefdaaGreatDoorGah
set_option maxRecDepth 100000
set_option maxHeartbeats 64000000
namespace Go.Proofs.YtomdfaelgcefdaaGreatDoor
open Go
namespace Sh
structure El_vt where
 num : Int
 null : Bool
 heap : Int
structure El_fld where
 num : Int
 null : Bool
 heap : Int
 mu : Bool
structure El_sub where
 final : Bool
 supers : Option (List Int)
 kind : Int
 params : Option (List El_vt)
 results : Option (List El_vt)
 fields : Option (List El_fld)
structure El_grp where
 types : Option (List El_sub)
 explicit : Bool
structure El_frame where
 op : Int
 inn : Option (List El_vt)
 out : Option (List El_vt)
 height : Int
 sets : Option (List Bool)
 dead : Bool
structure El_rframe where
 op : Int
 inn : Option (List El_vt)
 out : Option (List El_vt)
 height : Int
 sets : Option (List Bool)
 dead : Bool
structure El_glob where
 num : Int
 null : Bool
 heap : Int
 mu : Bool
structure El_lim where
 wide : Bool
 mn : Int
 mx : Int
 hm : Bool
structure El_tbl where
 num : Int
 null : Bool
 heap : Int
 wide : Bool
 mn : Int
 mx : Int
 hm : Bool
structure El_rrow where
 first : Int
 head : ByteArray
 names : ByteArray
 form : ByteArray
structure El_row where
 first : Int
 many : Int
 head : ByteArray
 names : ByteArray
 form : Int
structure El_known where
 op : Int
 name : ByteArray
 form : Int
structure El_catch where
 kind : Int
 tag : Int
 label : Int
structure El_instr where
 op : Int
 x : Int
 y : Int
 n : Int
 al : Int
 me : Int
 off : Int
 bt : Int
 bn : Int
 bl : Bool
 bh : Int
 body : Option (List El_instr)
 els : Option (List El_instr)
 he : Bool
 la : Option (List Int)
 ty : Option (List El_vt)
 ca : Option (List El_catch)
structure El_fam where
 first : Int
 types : Option (List El_sub)
structure El_rolled where
 types : Option (List El_sub)
 first : Int
inductive KT where
 | vt
 | int
 | bool
 | u32
 | u8
 | fld
 | sub
 | grp
 | lvt
 | frame
 | rframe
 | glob
 | lim
 | tbl
 | rrow
 | row
 | known
 | catch
 | instr
 | fam
 | rolled
 deriving DecidableEq
abbrev ElT : KT → Type
 | .vt => El_vt
 | .int => Int
 | .bool => Bool
 | .u32 => Int
 | .u8 => Int
 | .fld => El_fld
 | .sub => El_sub
 | .grp => El_grp
 | .lvt => (Option (List El_vt))
 | .frame => El_frame
 | .rframe => El_rframe
 | .glob => El_glob
 | .lim => El_lim
 | .tbl => El_tbl
 | .rrow => El_rrow
 | .row => El_row
 | .known => El_known
 | .catch => El_catch
 | .instr => El_instr
 | .fam => El_fam
 | .rolled => El_rolled
abbrev V := AV KT ElT
def slO (k : KT) : Option (List (ElT k)) → V
 | none => .nils
 | some l => .imm k l
def unO (k : KT) : V → Option (Option (List (ElT k)))
 | .nils => some none
 | .imm k' l => match decEq k' k with
  | isTrue h => some (some (h ▸ l))
  | isFalse _ => none
 | _ => none
theorem unO_eq {k : KT} {v : V} {o : Option (List (ElT k))} (h : unO k v = some o) : slO k o = v := by
 unfold unO at h;split at h
 · cases h; rfl
 · split at h
   · rename_i hk _;subst hk;cases h; rfl
   · cases h
 · cases h
theorem slO_one (k : KT) (o : Option (List (ElT k))) : (slO k o).one = true := by cases o <;> rfl
theorem slO_free (k : KT) (o : Option (List (ElT k))) : (slO k o).free = true := by cases o <;> rfl
def enc_vt (x : El_vt) : List V := [.int .i64 x.num,.bool x.null,.int .i64 x.heap]
def unc_vt : List V → Option El_vt
 | [.int .i64 a0,.bool a1,.int .i64 a2] => some ⟨a0,a1,a2⟩
 | _ => none
theorem unc_enc_vt {vs : List V} {x : ElT .vt} (h : unc_vt vs = some x) : enc_vt x = vs := by
 unfold unc_vt at h;split at h
 · cases h; rfl
 · cases h
def enc_int (x : Int) : List V := [.int .i64 x]
def unc_int : List V → Option Int
 | [.int .i64 a0] => some a0
 | _ => none
theorem unc_enc_int {vs : List V} {x : ElT .int} (h : unc_int vs = some x) : enc_int x = vs := by
 unfold unc_int at h;split at h
 · cases h; rfl
 · cases h
def enc_bool (x : Bool) : List V := [.bool x]
def unc_bool : List V → Option Bool
 | [.bool a0] => some a0
 | _ => none
theorem unc_enc_bool {vs : List V} {x : ElT .bool} (h : unc_bool vs = some x) : enc_bool x = vs := by
 unfold unc_bool at h;split at h
 · cases h; rfl
 · cases h
def enc_u32 (x : Int) : List V := [.int .u32 x]
def unc_u32 : List V → Option Int
 | [.int .u32 a0] => some a0
 | _ => none
theorem unc_enc_u32 {vs : List V} {x : ElT .u32} (h : unc_u32 vs = some x) : enc_u32 x = vs := by
 unfold unc_u32 at h;split at h
 · cases h; rfl
 · cases h
def enc_u8 (x : Int) : List V := [.int .u8 x]
def unc_u8 : List V → Option Int
 | [.int .u8 a0] => some a0
 | _ => none
theorem unc_enc_u8 {vs : List V} {x : ElT .u8} (h : unc_u8 vs = some x) : enc_u8 x = vs := by
 unfold unc_u8 at h;split at h
 · cases h; rfl
 · cases h
def enc_fld (x : El_fld) : List V := [.int .i64 x.num,.bool x.null,.int .i64 x.heap,.bool x.mu]
def unc_fld : List V → Option El_fld
 | [.int .i64 a0,.bool a1,.int .i64 a2,.bool a3] => some ⟨a0,a1,a2,a3⟩
 | _ => none
theorem unc_enc_fld {vs : List V} {x : ElT .fld} (h : unc_fld vs = some x) : enc_fld x = vs := by
 unfold unc_fld at h;split at h
 · cases h; rfl
 · cases h
def enc_sub (x : El_sub) : List V := [.bool x.final,slO .int x.supers,.int .i64 x.kind,slO .vt x.params,slO .vt x.results,slO .fld x.fields]
def unc_sub : List V → Option El_sub
 | [.bool a0,a1,.int .i64 a2,a3,a4,a5] => match unO .int a1,unO .vt a3,unO .vt a4,unO .fld a5 with
  | some b1,some b3,some b4,some b5 => some ⟨a0,b1,a2,b3,b4,b5⟩
  | _,_,_,_ => none
 | _ => none
theorem unc_enc_sub {vs : List V} {x : ElT .sub} (h : unc_sub vs = some x) : enc_sub x = vs := by
 unfold unc_sub at h;split at h
 · split at h
   · rename_i h1 h3 h4 h5;cases h;simp only [enc_sub,unO_eq h1,unO_eq h3,unO_eq h4,unO_eq h5]
   · cases h
 · cases h
def enc_grp (x : El_grp) : List V := [slO .sub x.types,.bool x.explicit]
def unc_grp : List V → Option El_grp
 | [a0,.bool a1] => match unO .sub a0 with
  | some b0 => some ⟨b0,a1⟩
  | _ => none
 | _ => none
theorem unc_enc_grp {vs : List V} {x : ElT .grp} (h : unc_grp vs = some x) : enc_grp x = vs := by
 unfold unc_grp at h;split at h
 · split at h
   · rename_i h0;cases h;simp only [enc_grp,unO_eq h0]
   · cases h
 · cases h
def enc_lvt (x : (Option (List El_vt))) : List V := [slO .vt x]
def unc_lvt : List V → Option (Option (List El_vt))
 | [a0] => match unO .vt a0 with
  | some b0 => some b0
  | _ => none
 | _ => none
theorem unc_enc_lvt {vs : List V} {x : ElT .lvt} (h : unc_lvt vs = some x) : enc_lvt x = vs := by
 unfold unc_lvt at h;split at h
 · split at h
   · rename_i h0;cases h;simp only [enc_lvt,unO_eq h0]
   · cases h
 · cases h
def enc_frame (x : El_frame) : List V := [.int .i64 x.op,slO .vt x.inn,slO .vt x.out,.int .i64 x.height,slO .bool x.sets,.bool x.dead]
def unc_frame : List V → Option El_frame
 | [.int .i64 a0,a1,a2,.int .i64 a3,a4,.bool a5] => match unO .vt a1,unO .vt a2,unO .bool a4 with
  | some b1,some b2,some b4 => some ⟨a0,b1,b2,a3,b4,a5⟩
  | _,_,_ => none
 | _ => none
theorem unc_enc_frame {vs : List V} {x : ElT .frame} (h : unc_frame vs = some x) : enc_frame x = vs := by
 unfold unc_frame at h;split at h
 · split at h
   · rename_i h1 h2 h4;cases h;simp only [enc_frame,unO_eq h1,unO_eq h2,unO_eq h4]
   · cases h
 · cases h
def enc_rframe (x : El_rframe) : List V := [.int .i64 x.op,slO .vt x.inn,slO .vt x.out,.int .i64 x.height,slO .bool x.sets,.bool x.dead]
def unc_rframe : List V → Option El_rframe
 | [.int .i64 a0,a1,a2,.int .i64 a3,a4,.bool a5] => match unO .vt a1,unO .vt a2,unO .bool a4 with
  | some b1,some b2,some b4 => some ⟨a0,b1,b2,a3,b4,a5⟩
  | _,_,_ => none
 | _ => none
theorem unc_enc_rframe {vs : List V} {x : ElT .rframe} (h : unc_rframe vs = some x) : enc_rframe x = vs := by
 unfold unc_rframe at h;split at h
 · split at h
   · rename_i h1 h2 h4;cases h;simp only [enc_rframe,unO_eq h1,unO_eq h2,unO_eq h4]
   · cases h
 · cases h
def enc_glob (x : El_glob) : List V := [.int .i64 x.num,.bool x.null,.int .i64 x.heap,.bool x.mu]
def unc_glob : List V → Option El_glob
 | [.int .i64 a0,.bool a1,.int .i64 a2,.bool a3] => some ⟨a0,a1,a2,a3⟩
 | _ => none
theorem unc_enc_glob {vs : List V} {x : ElT .glob} (h : unc_glob vs = some x) : enc_glob x = vs := by
 unfold unc_glob at h;split at h
 · cases h; rfl
 · cases h
def enc_lim (x : El_lim) : List V := [.bool x.wide,.int .u64 x.mn,.int .u64 x.mx,.bool x.hm]
def unc_lim : List V → Option El_lim
 | [.bool a0,.int .u64 a1,.int .u64 a2,.bool a3] => some ⟨a0,a1,a2,a3⟩
 | _ => none
theorem unc_enc_lim {vs : List V} {x : ElT .lim} (h : unc_lim vs = some x) : enc_lim x = vs := by
 unfold unc_lim at h;split at h
 · cases h; rfl
 · cases h
def enc_tbl (x : El_tbl) : List V := [.int .i64 x.num,.bool x.null,.int .i64 x.heap,.bool x.wide,.int .u64 x.mn,.int .u64 x.mx,.bool x.hm]
def unc_tbl : List V → Option El_tbl
 | [.int .i64 a0,.bool a1,.int .i64 a2,.bool a3,.int .u64 a4,.int .u64 a5,.bool a6] => some ⟨a0,a1,a2,a3,a4,a5,a6⟩
 | _ => none
theorem unc_enc_tbl {vs : List V} {x : ElT .tbl} (h : unc_tbl vs = some x) : enc_tbl x = vs := by
 unfold unc_tbl at h;split at h
 · cases h; rfl
 · cases h
def enc_rrow (x : El_rrow) : List V := [.int .i64 x.first,.str x.head,.str x.names,.str x.form]
def unc_rrow : List V → Option El_rrow
 | [.int .i64 a0,.str a1,.str a2,.str a3] => some ⟨a0,a1,a2,a3⟩
 | _ => none
theorem unc_enc_rrow {vs : List V} {x : ElT .rrow} (h : unc_rrow vs = some x) : enc_rrow x = vs := by
 unfold unc_rrow at h;split at h
 · cases h; rfl
 · cases h
def enc_row (x : El_row) : List V := [.int .i64 x.first,.int .i64 x.many,.str x.head,.str x.names,.int .i64 x.form]
def unc_row : List V → Option El_row
 | [.int .i64 a0,.int .i64 a1,.str a2,.str a3,.int .i64 a4] => some ⟨a0,a1,a2,a3,a4⟩
 | _ => none
theorem unc_enc_row {vs : List V} {x : ElT .row} (h : unc_row vs = some x) : enc_row x = vs := by
 unfold unc_row at h;split at h
 · cases h; rfl
 · cases h
def enc_known (x : El_known) : List V := [.int .i64 x.op,.str x.name,.int .i64 x.form]
def unc_known : List V → Option El_known
 | [.int .i64 a0,.str a1,.int .i64 a2] => some ⟨a0,a1,a2⟩
 | _ => none
theorem unc_enc_known {vs : List V} {x : ElT .known} (h : unc_known vs = some x) : enc_known x = vs := by
 unfold unc_known at h;split at h
 · cases h; rfl
 · cases h
def enc_catch (x : El_catch) : List V := [.int .i64 x.kind,.int .u32 x.tag,.int .u32 x.label]
def unc_catch : List V → Option El_catch
 | [.int .i64 a0,.int .u32 a1,.int .u32 a2] => some ⟨a0,a1,a2⟩
 | _ => none
theorem unc_enc_catch {vs : List V} {x : ElT .catch} (h : unc_catch vs = some x) : enc_catch x = vs := by
 unfold unc_catch at h;split at h
 · cases h; rfl
 · cases h
def enc_instr (x : El_instr) : List V := [.int .i64 x.op,.int .u32 x.x,.int .u32 x.y,.int .u64 x.n,.int .u32 x.al,.int .u32 x.me,.int .u64 x.off,.int .i64 x.bt,.int .i64 x.bn,.bool x.bl,.int .i64 x.bh,slO .instr x.body,slO .instr x.els,.bool x.he,slO .u32 x.la,slO .vt x.ty,slO .catch x.ca]
def unc_instr : List V → Option El_instr
 | [.int .i64 a0,.int .u32 a1,.int .u32 a2,.int .u64 a3,.int .u32 a4,.int .u32 a5,.int .u64 a6,.int .i64 a7,.int .i64 a8,.bool a9,.int .i64 a10,a11,a12,.bool a13,a14,a15,a16] => match unO .instr a11,unO .instr a12,unO .u32 a14,unO .vt a15,unO .catch a16 with
  | some b11,some b12,some b14,some b15,some b16 => some ⟨a0,a1,a2,a3,a4,a5,a6,a7,a8,a9,a10,b11,b12,a13,b14,b15,b16⟩
  | _,_,_,_,_ => none
 | _ => none
theorem unc_enc_instr {vs : List V} {x : ElT .instr} (h : unc_instr vs = some x) : enc_instr x = vs := by
 unfold unc_instr at h;split at h
 · split at h
   · rename_i h11 h12 h14 h15 h16;cases h;simp only [enc_instr,unO_eq h11,unO_eq h12,unO_eq h14,unO_eq h15,unO_eq h16]
   · cases h
 · cases h
def enc_fam (x : El_fam) : List V := [.int .i64 x.first,slO .sub x.types]
def unc_fam : List V → Option El_fam
 | [.int .i64 a0,a1] => match unO .sub a1 with
  | some b1 => some ⟨a0,b1⟩
  | _ => none
 | _ => none
theorem unc_enc_fam {vs : List V} {x : ElT .fam} (h : unc_fam vs = some x) : enc_fam x = vs := by
 unfold unc_fam at h;split at h
 · split at h
   · rename_i h1;cases h;simp only [enc_fam,unO_eq h1]
   · cases h
 · cases h
def enc_rolled (x : El_rolled) : List V := [slO .sub x.types,.int .i64 x.first]
def unc_rolled : List V → Option El_rolled
 | [a0,.int .i64 a1] => match unO .sub a0 with
  | some b0 => some ⟨b0,a1⟩
  | _ => none
 | _ => none
theorem unc_enc_rolled {vs : List V} {x : ElT .rolled} (h : unc_rolled vs = some x) : enc_rolled x = vs := by
 unfold unc_rolled at h;split at h
 · split at h
   · rename_i h0;cases h;simp only [enc_rolled,unO_eq h0]
   · cases h
 · cases h
def encT : (k : KT) → ElT k → List V
 | .vt,x => enc_vt x
 | .int,x => enc_int x
 | .bool,x => enc_bool x
 | .u32,x => enc_u32 x
 | .u8,x => enc_u8 x
 | .fld,x => enc_fld x
 | .sub,x => enc_sub x
 | .grp,x => enc_grp x
 | .lvt,x => enc_lvt x
 | .frame,x => enc_frame x
 | .rframe,x => enc_rframe x
 | .glob,x => enc_glob x
 | .lim,x => enc_lim x
 | .tbl,x => enc_tbl x
 | .rrow,x => enc_rrow x
 | .row,x => enc_row x
 | .known,x => enc_known x
 | .catch,x => enc_catch x
 | .instr,x => enc_instr x
 | .fam,x => enc_fam x
 | .rolled,x => enc_rolled x
def uncT : (k : KT) → List V → Option (ElT k)
 | .vt,vs => unc_vt vs
 | .int,vs => unc_int vs
 | .bool,vs => unc_bool vs
 | .u32,vs => unc_u32 vs
 | .u8,vs => unc_u8 vs
 | .fld,vs => unc_fld vs
 | .sub,vs => unc_sub vs
 | .grp,vs => unc_grp vs
 | .lvt,vs => unc_lvt vs
 | .frame,vs => unc_frame vs
 | .rframe,vs => unc_rframe vs
 | .glob,vs => unc_glob vs
 | .lim,vs => unc_lim vs
 | .tbl,vs => unc_tbl vs
 | .rrow,vs => unc_rrow vs
 | .row,vs => unc_row vs
 | .known,vs => unc_known vs
 | .catch,vs => unc_catch vs
 | .instr,vs => unc_instr vs
 | .fam,vs => unc_fam vs
 | .rolled,vs => unc_rolled vs
def zeroT : (k : KT) → ElT k
 | .vt => ⟨0,false,0⟩
 | .int => (0 : Int)
 | .bool => (false : Bool)
 | .u32 => (0 : Int)
 | .u8 => (0 : Int)
 | .fld => ⟨0,false,0,false⟩
 | .sub => ⟨false,none,0,none,none,none⟩
 | .grp => ⟨none,false⟩
 | .lvt => (none : Option (List El_vt))
 | .frame => ⟨0,none,none,0,none,false⟩
 | .rframe => ⟨0,none,none,0,none,false⟩
 | .glob => ⟨0,false,0,false⟩
 | .lim => ⟨false,0,0,false⟩
 | .tbl => ⟨0,false,0,false,0,0,false⟩
 | .rrow => ⟨0,ByteArray.empty,ByteArray.empty,ByteArray.empty⟩
 | .row => ⟨0,0,ByteArray.empty,ByteArray.empty,0⟩
 | .known => ⟨0,ByteArray.empty,0⟩
 | .catch => ⟨0,0,0⟩
 | .instr => ⟨0,0,0,0,0,0,0,0,0,false,0,none,none,false,none,none,none⟩
 | .fam => ⟨0,none⟩
 | .rolled => ⟨none,0⟩
noncomputable def S : Seat KT ElT where
 P := Tryz.prog
 dec := inferInstance
 size | .vt => 3 | .int => 1 | .bool => 1 | .u32 => 1 | .u8 => 1 | .fld => 4 | .sub => 6 | .grp => 2 | .lvt => 1 | .frame => 6 | .rframe => 6 | .glob => 4 | .lim => 4 | .tbl => 7 | .rrow => 4 | .row => 5 | .known => 3 | .catch => 3 | .instr => 17 | .fam => 2 | .rolled => 2
 bytes | .vt => 24 | .int => 8 | .bool => 1 | .u32 => 4 | .u8 => 1 | .fld => 32 | .sub => 112 | .grp => 32 | .lvt => 24 | .frame => 96 | .rframe => 96 | .glob => 32 | .lim => 32 | .tbl => 56 | .rrow => 56 | .row => 56 | .known => 32 | .catch => 16 | .instr => 200 | .fam => 32 | .rolled => 32
 ty | .vt => 46 | .int => 3 | .bool => 4 | .u32 => 27 | .u8 => 5 | .fld => 167 | .sub => 162 | .grp => 156 | .lvt => 23 | .frame => 102 | .rframe => 136 | .glob => 170 | .lim => 81 | .tbl => 223 | .rrow => 192 | .row => 218 | .known => 187 | .catch => 362 | .instr => 72 | .fam => 299 | .rolled => 341
 enc := encT
 unc := uncT
 zero := zeroT
 kd | 46 => some .vt | 3 => some .int | 4 => some .bool | 27 => some .u32 | 5 => some .u8 | 167 => some .fld | 162 => some .sub | 156 => some .grp | 23 => some .lvt | 102 => some .frame | 136 => some .rframe | 170 => some .glob | 81 => some .lim | 223 => some .tbl | 192 => some .rrow | 218 => some .row | 187 => some .known | 362 => some .catch | 72 => some .instr | 299 => some .fam | 341 => some .rolled | _ => none
 glb := [3]
 inv w := Lib.TabIs Tryz.prog w "internal/strconv.uint64pow10" .u64 Lib.pow10Tab
 flat | .sub => false | .grp => false | .lvt => false | .frame => false | .rframe => false | .instr => false | .fam => false | .rolled => false | _ => true
theorem allP {p : V → Bool} {l : List V} (h : l.all p = true) (u : V) (hu : u ∈ l) : p u = true := List.all_eq_true.1 h u hu
theorem info_of {t sz by_ : Nat} {zs : List V} (h : (Tryz.prog.info? t).map (fun i => (i.size,i.bytes,i.zero.map fun z => (z.cells.size,(z.cells.toList.mapM constAV : Option (List V))))) = some (sz,by_,some (sz,some zs))) :
    ∃ i z,Tryz.prog.info? t = some i ∧ i.size = sz ∧ i.zero = some z ∧ z.cells.size = sz ∧ i.bytes = by_ ∧ (z.cells.toList.mapM constAV : Option (List V)) = some zs := by
 cases hi : Tryz.prog.info? t with
 | none => rw [hi] at h; simp at h
 | some i =>
  rw [hi] at h;simp only [Option.map_some,Option.some.injEq,Prod.mk.injEq] at h;obtain ⟨h1,h2,h3⟩ := h
  cases hz : i.zero with
  | none => rw [hz] at h3; simp at h3
  | some z =>
   rw [hz] at h3;simp only [Option.map_some,Option.some.injEq,Prod.mk.injEq] at h3;exact ⟨i,z,rfl,h1,hz,h3.1,h2,h3.2⟩
theorem ok : Ok S where
 enc_len k x := by cases k <;> rfl
 unc_enc k vs x h := by
  cases k
  · exact unc_enc_vt h
  · exact unc_enc_int h
  · exact unc_enc_bool h
  · exact unc_enc_u32 h
  · exact unc_enc_u8 h
  · exact unc_enc_fld h
  · exact unc_enc_sub h
  · exact unc_enc_grp h
  · exact unc_enc_lvt h
  · exact unc_enc_frame h
  · exact unc_enc_rframe h
  · exact unc_enc_glob h
  · exact unc_enc_lim h
  · exact unc_enc_tbl h
  · exact unc_enc_rrow h
  · exact unc_enc_row h
  · exact unc_enc_known h
  · exact unc_enc_catch h
  · exact unc_enc_instr h
  · exact unc_enc_fam h
  · exact unc_enc_rolled h
 one k x u h := by
  cases k
  · exact allP (p := AV.one) rfl u h
  · exact allP (p := AV.one) rfl u h
  · exact allP (p := AV.one) rfl u h
  · exact allP (p := AV.one) rfl u h
  · exact allP (p := AV.one) rfl u h
  · exact allP (p := AV.one) rfl u h
  · exact allP (p := AV.one) (by simp only [S,encT,enc_sub,List.all_cons,List.all_nil,slO_one]; rfl) u h
  · exact allP (p := AV.one) (by simp only [S,encT,enc_grp,List.all_cons,List.all_nil,slO_one]; rfl) u h
  · exact allP (p := AV.one) (by simp only [S,encT,enc_lvt,List.all_cons,List.all_nil,slO_one]; rfl) u h
  · exact allP (p := AV.one) (by simp only [S,encT,enc_frame,List.all_cons,List.all_nil,slO_one]; rfl) u h
  · exact allP (p := AV.one) (by simp only [S,encT,enc_rframe,List.all_cons,List.all_nil,slO_one]; rfl) u h
  · exact allP (p := AV.one) rfl u h
  · exact allP (p := AV.one) rfl u h
  · exact allP (p := AV.one) rfl u h
  · exact allP (p := AV.one) rfl u h
  · exact allP (p := AV.one) rfl u h
  · exact allP (p := AV.one) rfl u h
  · exact allP (p := AV.one) rfl u h
  · exact allP (p := AV.one) (by simp only [S,encT,enc_instr,List.all_cons,List.all_nil,slO_one]; rfl) u h
  · exact allP (p := AV.one) (by simp only [S,encT,enc_fam,List.all_cons,List.all_nil,slO_one]; rfl) u h
  · exact allP (p := AV.one) (by simp only [S,encT,enc_rolled,List.all_cons,List.all_nil,slO_one]; rfl) u h
 free k x u h := by
  cases k
  · exact allP (p := AV.free) rfl u h
  · exact allP (p := AV.free) rfl u h
  · exact allP (p := AV.free) rfl u h
  · exact allP (p := AV.free) rfl u h
  · exact allP (p := AV.free) rfl u h
  · exact allP (p := AV.free) rfl u h
  · exact allP (p := AV.free) (by simp only [S,encT,enc_sub,List.all_cons,List.all_nil,slO_free]; rfl) u h
  · exact allP (p := AV.free) (by simp only [S,encT,enc_grp,List.all_cons,List.all_nil,slO_free]; rfl) u h
  · exact allP (p := AV.free) (by simp only [S,encT,enc_lvt,List.all_cons,List.all_nil,slO_free]; rfl) u h
  · exact allP (p := AV.free) (by simp only [S,encT,enc_frame,List.all_cons,List.all_nil,slO_free]; rfl) u h
  · exact allP (p := AV.free) (by simp only [S,encT,enc_rframe,List.all_cons,List.all_nil,slO_free]; rfl) u h
  · exact allP (p := AV.free) rfl u h
  · exact allP (p := AV.free) rfl u h
  · exact allP (p := AV.free) rfl u h
  · exact allP (p := AV.free) rfl u h
  · exact allP (p := AV.free) rfl u h
  · exact allP (p := AV.free) rfl u h
  · exact allP (p := AV.free) rfl u h
  · exact allP (p := AV.free) (by simp only [S,encT,enc_instr,List.all_cons,List.all_nil,slO_free]; rfl) u h
  · exact allP (p := AV.free) (by simp only [S,encT,enc_fam,List.all_cons,List.all_nil,slO_free]; rfl) u h
  · exact allP (p := AV.free) (by simp only [S,encT,enc_rolled,List.all_cons,List.all_nil,slO_free]; rfl) u h
 flat k x hf u hu := by
  cases k
  · exact allP (p := pure1) rfl u hu
  · exact allP (p := pure1) rfl u hu
  · exact allP (p := pure1) rfl u hu
  · exact allP (p := pure1) rfl u hu
  · exact allP (p := pure1) rfl u hu
  · exact allP (p := pure1) rfl u hu
  · cases hf
  · cases hf
  · cases hf
  · cases hf
  · cases hf
  · exact allP (p := pure1) rfl u hu
  · exact allP (p := pure1) rfl u hu
  · exact allP (p := pure1) rfl u hu
  · exact allP (p := pure1) rfl u hu
  · exact allP (p := pure1) rfl u hu
  · exact allP (p := pure1) rfl u hu
  · exact allP (p := pure1) rfl u hu
  · cases hf
  · cases hf
  · cases hf
 pos k := by cases k <;> decide
 info k := by
  cases k
  · exact info_of (by kernel_rfl)
  · exact info_of (by kernel_rfl)
  · exact info_of (by kernel_rfl)
  · exact info_of (by kernel_rfl)
  · exact info_of (by kernel_rfl)
  · exact info_of (by kernel_rfl)
  · exact info_of (by kernel_rfl)
  · exact info_of (by kernel_rfl)
  · exact info_of (by kernel_rfl)
  · exact info_of (by kernel_rfl)
  · exact info_of (by kernel_rfl)
  · exact info_of (by kernel_rfl)
  · exact info_of (by kernel_rfl)
  · exact info_of (by kernel_rfl)
  · exact info_of (by kernel_rfl)
  · exact info_of (by kernel_rfl)
  · exact info_of (by kernel_rfl)
  · exact info_of (by kernel_rfl)
  · exact info_of (by kernel_rfl)
  · exact info_of (by kernel_rfl)
  · exact info_of (by kernel_rfl)
 kd t k h := by
  simp only [S] at h
  split at h <;> first | (cases h; rfl) | (cases h; done)
 mixed := by kernel_rfl
 keep w w' hh h := by
  have hg : Tryz.prog.globalNamed "internal/strconv.uint64pow10" = some 3 := by kernel_rfl
  have h0 := hh 3 (by simp [S]);simp only [S,Lib.TabIs,World.var?,hg,Option.bind_some] at h ⊢;rw [h0];exact h
end Sh
end Go.Proofs.YtomdfaelgcefdaaGreatDoor
