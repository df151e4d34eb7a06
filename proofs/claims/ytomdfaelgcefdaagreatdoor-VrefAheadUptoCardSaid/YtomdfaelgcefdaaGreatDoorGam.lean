/- Turn Closed AddL. -/
import Derived.Test.YtomdfaelgcefdaaGreatDoorGal
set_option maxRecDepth 100000
set_option maxHeartbeats 64000000
namespace Go.Proofs.YtomdfaelgcefdaaGreatDoor
open Go
namespace Sh
def clsH (e : Int) (z : Bool) (s : El_sub) (os : List (AO KT ElT)) : Heap KT ElT := [.cells [.bool z],.cells [.int .i64 e]] ++ ([.cells (enc_sub s),.cells [.clo 207 [some 0,some 1]],resC] ++ os)
def clsV1 (a : List Int) (i : Int) : List V := [.ptr 2 0,.ptr 3 0,.ptr 4 0,.clo 206 [some 3],.ptr 5 0,.imm .int a,.int .i64 a.length,.int .i64 i]
def clsV2 (a : List El_vt) (i : Int) : List V := [.ptr 2 0,.ptr 4 0,.clo 206 [some 3],.ptr 5 0,.imm .vt a,.int .i64 a.length,.int .i64 i]
def clsV4 (a : List El_fld) (i : Int) : List V := [.ptr 4 0,.clo 206 [some 3],.ptr 5 0,.imm .fld a,.int .i64 a.length,.int .i64 i]
theorem c_cls (e : Int) (z : Bool) (s : El_sub) (hs : good_sub 1048576 s) :
    SpecD S 182 [.agg (enc_sub s),.clo 207 [some 0,some 1]] [.cells [.bool z],.cells [.int .i64 e]] (.agg (enc_sub s)) [.cells [.bool (okSub e s z)],.cells [.int .i64 e]] := by
 obtain ⟨fi,sa,sk,sp,sr,sf⟩ := s;obtain ⟨⟨a,ha0,hal,hag⟩,hk,⟨p,hp0,hpl,hpg⟩,⟨r,hr0,hrl,hrg⟩,⟨f,hf0,hfl,hfg⟩⟩ := hs;simp only at ha0 hk hp0 hr0 hf0;subst ha0 hp0 hr0 hf0;refine specE ok sh182 rfl ?_;conv=>whnf
 refine loop_of [.cell 5 1 .int] [0,1,2,3,4,5,6] (fun vs H => ∃ i : Nat,i ≤ a.length ∧ vs = clsV1 a i ∧ H = clsH e ((a.take i).all (okI e) && z) ⟨fi,some a,sk,some p,some r,some f⟩ [outC fi (.own .int 6 0 i .whole) sk (.nils) (.nils) (.nils),.row .int ((a.take i))])
  (fun vs _ => match vs with | [_,_,_,_,_,_,_,.int _ j] => a.length - j.toNat | _ => 0) (by rfl) (by rfl) (by rfl) (by rfl) ⟨0,Nat.zero_le _,rfl,rfl⟩ ?_
 rintro vs H1 ⟨i,hi,rfl,rfl⟩;(conv=>whnf);cases hd : decide ((i : Int) < a.length)
 rotate_left
 · (conv=>whnf);have hil := of_decide_eq_true hd;have hwi : IntKind.i64.wrap ((i : Int) + 1) = ((i + 1 : Nat) : Int) := wrap_i64 (by omega) (by omega);refine ⟨rfl,by omega,by omega,?_⟩;(conv=>whnf);refine ⟨by omega,(by decide : 0 + 1 ≤ 1),?_⟩;rw [show a.getD (Int.toNat (i : Int)) (S.zero .int) = a.getD i (S.zero .int) by rw [Int.toNat_natCast]];have hx := getD_at (show i < a.length by omega) (S.zero .int);have hgx := hag _ (List.mem_of_getElem? hx);have hst : ((a.take (i + 1)).all (okI e) && z) = (okI e (a.getD i (S.zero .int)) && ((a.take i).all (okI e) && z)) := by rw [take_succ' hx]; simp [Bool.and_assoc,Bool.and_comm]
   have ht : (a.take (i + 1)) = (a.take i) ++ [(a.getD i (S.zero .int))] := take_succ' hx;have htl : ((a.take i)).length = i := by simp; omega
   generalize a.getD i (S.zero .int) = x at hx hgx ht hst;have hc := c_clo1 x e ((a.take i).all (okI e) && z);generalize (a.take i) = xs at ht htl hc hst;(conv=>whnf);refine cQ [0,1] hc ?_;(conv=>whnf);refine tQ ?_;(conv=>whnf);refine tQ ?_;(conv=>whnf);refine ⟨rfl,by simp,?_⟩;(conv=>whnf);refine ⟨rfl,by show 0 + i ≤ xs.length; omega,fits_of (by show i + 1 ≤ _; omega) (by decide),rfl,?_⟩;(conv=>whnf);refine ⟨[0,1,2,3,4,5,8],[],relo_of [0,1,2,3,4,5,8] (by rfl) (by rfl),?_⟩;refine ⟨⟨i + 1,by omega,congrArg (clsV1 a) hwi,?_⟩,?_⟩
   · rw [hst,ht];generalize (okI e x && (xs.all (okI e) && z)) = zz;have e : xs.take i = xs := by rw [← htl,List.take_length]
     conv => rhs; rw [← e]
     rfl
   · show a.length - (IntKind.i64.wrap ((i : Int) + 1)).toNat < a.length - (i : Int).toNat;rw [hwi]; omega
 have := of_decide_eq_false hd;obtain rfl : i = a.length := by omega
 clear hd hi;rw [List.take_length];conv=>whnf
 refine loop_of [.cell 5 3 .vt] [0,1,2,3,4,5,6,7] (fun vs H => ∃ i : Nat,i ≤ p.length ∧ vs = clsV2 p i ∧ H = clsH e ((p.take i).all (okVt e) && (a.all (okI e) && z)) ⟨fi,some a,sk,some p,some r,some f⟩ [outC fi (.own .int 6 0 a.length .whole) sk (.own .vt 7 0 i .whole) (.nils) (.nils),.row .int (a),.row .vt ((p.take i))])
  (fun vs _ => match vs with | [_,_,_,_,_,_,.int _ j] => p.length - j.toNat | _ => 0) (by rfl) (by rfl) (by rfl) (by rfl) ⟨0,Nat.zero_le _,rfl,rfl⟩ ?_
 rintro vs H1 ⟨i,hi,rfl,rfl⟩;(conv=>whnf);cases hd : decide ((i : Int) < p.length)
 rotate_left
 · (conv=>whnf);have hil := of_decide_eq_true hd;have hwi : IntKind.i64.wrap ((i : Int) + 1) = ((i + 1 : Nat) : Int) := wrap_i64 (by omega) (by omega);refine ⟨rfl,by omega,by omega,?_⟩;(conv=>whnf);refine ⟨by omega,(by decide : 0 + 3 ≤ 3),?_⟩;rw [show p.getD (Int.toNat (i : Int)) (S.zero .vt) = p.getD i (S.zero .vt) by rw [Int.toNat_natCast]];have hx := getD_at (show i < p.length by omega) (S.zero .vt);have hgx := hpg _ (List.mem_of_getElem? hx);have hst : ((p.take (i + 1)).all (okVt e) && (a.all (okI e) && z)) = (okVt e (p.getD i (S.zero .vt)) && ((p.take i).all (okVt e) && (a.all (okI e) && z))) := by rw [take_succ' hx]; simp [Bool.and_assoc,Bool.and_comm]
   have ht : (p.take (i + 1)) = (p.take i) ++ [(p.getD i (S.zero .vt))] := take_succ' hx;have htl : ((p.take i)).length = i := by simp; omega
   generalize p.getD i (S.zero .vt) = x at hx hgx ht hst;have hc := c_trn1 x e ((p.take i).all (okVt e) && (a.all (okI e) && z));generalize (p.take i) = xs at ht htl hc hst;(conv=>whnf);refine cQ [3,0,1] hc ?_;(conv=>whnf);refine tQ ?_;(conv=>whnf);refine tQ ?_;(conv=>whnf);refine ⟨rfl,by simp,?_⟩;(conv=>whnf);refine ⟨rfl,by show 0 + i ≤ xs.length; omega,fits_of (by show i + 1 ≤ _; omega) (by decide),rfl,?_⟩;(conv=>whnf);refine ⟨[0,1,2,3,4,5,6,10],[],relo_of [0,1,2,3,4,5,6,10] (by rfl) (by rfl),?_⟩;refine ⟨⟨i + 1,by omega,congrArg (clsV2 p) hwi,?_⟩,?_⟩
   · rw [hst,ht];generalize (okVt e x && (xs.all (okVt e) && (a.all (okI e) && z))) = zz;have e : xs.take i = xs := by rw [← htl,List.take_length]
     conv => rhs; rw [← e]
     rfl
   · show p.length - (IntKind.i64.wrap ((i : Int) + 1)).toNat < p.length - (i : Int).toNat;rw [hwi]; omega
 have := of_decide_eq_false hd;obtain rfl : i = p.length := by omega
 clear hd hi;rw [List.take_length];conv=>whnf
 refine loop_of [.cell 5 4 .vt] [0,1,2,3,4,5,6,7,8] (fun vs H => ∃ i : Nat,i ≤ r.length ∧ vs = clsV2 r i ∧ H = clsH e ((r.take i).all (okVt e) && (p.all (okVt e) && (a.all (okI e) && z))) ⟨fi,some a,sk,some p,some r,some f⟩ [outC fi (.own .int 6 0 a.length .whole) sk (.own .vt 7 0 p.length .whole) (.own .vt 8 0 i .whole) (.nils),.row .int (a),.row .vt (p),.row .vt ((r.take i))])
  (fun vs _ => match vs with | [_,_,_,_,_,_,.int _ j] => r.length - j.toNat | _ => 0) (by rfl) (by rfl) (by rfl) (by rfl) ⟨0,Nat.zero_le _,rfl,rfl⟩ ?_
 rintro vs H1 ⟨i,hi,rfl,rfl⟩;(conv=>whnf);cases hd : decide ((i : Int) < r.length)
 rotate_left
 · (conv=>whnf);have hil := of_decide_eq_true hd;have hwi : IntKind.i64.wrap ((i : Int) + 1) = ((i + 1 : Nat) : Int) := wrap_i64 (by omega) (by omega);refine ⟨rfl,by omega,by omega,?_⟩;(conv=>whnf);refine ⟨by omega,(by decide : 0 + 3 ≤ 3),?_⟩;rw [show r.getD (Int.toNat (i : Int)) (S.zero .vt) = r.getD i (S.zero .vt) by rw [Int.toNat_natCast]];have hx := getD_at (show i < r.length by omega) (S.zero .vt);have hgx := hrg _ (List.mem_of_getElem? hx);have hst : ((r.take (i + 1)).all (okVt e) && (p.all (okVt e) && (a.all (okI e) && z))) = (okVt e (r.getD i (S.zero .vt)) && ((r.take i).all (okVt e) && (p.all (okVt e) && (a.all (okI e) && z)))) := by rw [take_succ' hx]; simp [Bool.and_assoc,Bool.and_comm]
   have ht : (r.take (i + 1)) = (r.take i) ++ [(r.getD i (S.zero .vt))] := take_succ' hx;have htl : ((r.take i)).length = i := by simp; omega
   generalize r.getD i (S.zero .vt) = x at hx hgx ht hst;have hc := c_trn1 x e ((r.take i).all (okVt e) && (p.all (okVt e) && (a.all (okI e) && z)));generalize (r.take i) = xs at ht htl hc hst;(conv=>whnf);refine cQ [3,0,1] hc ?_;(conv=>whnf);refine tQ ?_;(conv=>whnf);refine tQ ?_;(conv=>whnf);refine ⟨rfl,by simp,?_⟩;(conv=>whnf);refine ⟨rfl,by show 0 + i ≤ xs.length; omega,fits_of (by show i + 1 ≤ _; omega) (by decide),rfl,?_⟩;(conv=>whnf);refine ⟨[0,1,2,3,4,5,6,7,11],[],relo_of [0,1,2,3,4,5,6,7,11] (by rfl) (by rfl),?_⟩;refine ⟨⟨i + 1,by omega,congrArg (clsV2 r) hwi,?_⟩,?_⟩
   · rw [hst,ht];generalize (okVt e x && (xs.all (okVt e) && (p.all (okVt e) && (a.all (okI e) && z)))) = zz;have e : xs.take i = xs := by rw [← htl,List.take_length]
     conv => rhs; rw [← e]
     rfl
   · show r.length - (IntKind.i64.wrap ((i : Int) + 1)).toNat < r.length - (i : Int).toNat;rw [hwi]; omega
 have := of_decide_eq_false hd;obtain rfl : i = r.length := by omega
 clear hd hi;rw [List.take_length];conv=>whnf
 refine loop_of [.cell 5 5 .fld] [0,1,2,3,4,5,6,7,8,9] (fun vs H => ∃ i : Nat,i ≤ f.length ∧ vs = clsV4 f i ∧ H = clsH e ((f.take i).all (okFd e) && (r.all (okVt e) && (p.all (okVt e) && (a.all (okI e) && z)))) ⟨fi,some a,sk,some p,some r,some f⟩ [outC fi (.own .int 6 0 a.length .whole) sk (.own .vt 7 0 p.length .whole) (.own .vt 8 0 r.length .whole) (.own .fld 9 0 i .whole),.row .int (a),.row .vt (p),.row .vt (r),.row .fld ((f.take i))])
  (fun vs _ => match vs with | [_,_,_,_,_,.int _ j] => f.length - j.toNat | _ => 0) (by rfl) (by rfl) (by rfl) (by rfl) ⟨0,Nat.zero_le _,rfl,rfl⟩ ?_
 rintro vs H1 ⟨i,hi,rfl,rfl⟩;(conv=>whnf);cases hd : decide ((i : Int) < f.length)
 rotate_left
 · (conv=>whnf);have hil := of_decide_eq_true hd;have hwi : IntKind.i64.wrap ((i : Int) + 1) = ((i + 1 : Nat) : Int) := wrap_i64 (by omega) (by omega);refine ⟨rfl,by omega,by omega,?_⟩;(conv=>whnf);refine ⟨by omega,(by decide : 0 + 4 ≤ 4),?_⟩;rw [show f.getD (Int.toNat (i : Int)) (S.zero .fld) = f.getD i (S.zero .fld) by rw [Int.toNat_natCast]];have hx := getD_at (show i < f.length by omega) (S.zero .fld);have hgx := hfg _ (List.mem_of_getElem? hx);have hst : ((f.take (i + 1)).all (okFd e) && (r.all (okVt e) && (p.all (okVt e) && (a.all (okI e) && z)))) = (okFd e (f.getD i (S.zero .fld)) && ((f.take i).all (okFd e) && (r.all (okVt e) && (p.all (okVt e) && (a.all (okI e) && z))))) := by rw [take_succ' hx]; simp [Bool.and_assoc,Bool.and_comm,Bool.and_left_comm]
   have ht : (f.take (i + 1)) = (f.take i) ++ [(f.getD i (S.zero .fld))] := take_succ' hx;have htl : ((f.take i)).length = i := by simp; omega
   generalize f.getD i (S.zero .fld) = x at hx hgx ht hst;obtain ⟨xn,xu,xh,xm⟩ := x
   change _ = (okVt e ⟨xn,xu,xh⟩ && _) at hst
   have hc := c_trn1 ⟨xn,xu,xh⟩ e ((f.take i).all (okFd e) && (r.all (okVt e) && (p.all (okVt e) && (a.all (okI e) && z))));generalize (f.take i) = xs at ht htl hc hst;(conv=>whnf);refine cQ [3,0,1] hc ?_;(conv=>whnf);refine tQ ?_;(conv=>whnf);refine tQ ?_;(conv=>whnf);refine ⟨rfl,by simp,?_⟩;(conv=>whnf);refine ⟨rfl,by show 0 + i ≤ xs.length; omega,fits_of (by show i + 1 ≤ _; omega) (by decide),rfl,?_⟩;(conv=>whnf);refine ⟨[0,1,2,3,4,5,6,7,8,12],[],relo_of [0,1,2,3,4,5,6,7,8,12] (by rfl) (by rfl),?_⟩;refine ⟨⟨i + 1,by omega,congrArg (clsV4 f) hwi,?_⟩,?_⟩
   · rw [hst,ht];generalize (okVt e ⟨xn,xu,xh⟩ && (xs.all (okFd e) && (r.all (okVt e) && (p.all (okVt e) && (a.all (okI e) && z))))) = zz;have e : xs.take i = xs := by rw [← htl,List.take_length]
     conv => rhs; rw [← e]
     rfl
   · show f.length - (IntKind.i64.wrap ((i : Int) + 1)).toNat < f.length - (i : Int).toNat;rw [hwi]; omega
 have := of_decide_eq_false hd;obtain rfl : i = f.length := by omega
 clear hd hi;rw [List.take_length];(conv=>whnf);refine endL_of [0,1] [6,7,8,9] (by rfl) (by rfl) (by rfl) ⟨⟨trivial,trivial⟩,⟨trivial,trivial⟩,trivial⟩ ⟨trivial,⟨rfl,by simp⟩,trivial,⟨rfl,by simp⟩,⟨rfl,by simp⟩,⟨rfl,by simp⟩,trivial⟩ ⟨?_,rfl⟩;show (AV.agg [.bool fi,.imm .int (((a).drop 0).take a.length),.int .i64 sk,.imm .vt (((p).drop 0).take p.length),.imm .vt (((r).drop 0).take r.length),.imm .fld (((f).drop 0).take f.length)] : V) = _;rw [drop_take' (by simp),drop_take' (by simp),drop_take' (by simp),drop_take' (by simp)];rfl
def attH (s : El_sub) (os : List (AO KT ElT)) : Heap KT ElT := [] ++ ([.cells (enc_sub s),.cells [.fn 183],resC] ++ os)
def attV1 (a : List Int) (i : Int) : List V := [.ptr 0 0,.ptr 1 0,.ptr 2 0,.clo 206 [some 1],.ptr 3 0,.imm .int a,.int .i64 a.length,.int .i64 i]
def attV2 (a : List El_vt) (i : Int) : List V := [.ptr 0 0,.ptr 2 0,.clo 206 [some 1],.ptr 3 0,.imm .vt a,.int .i64 a.length,.int .i64 i]
def attV4 (a : List El_fld) (i : Int) : List V := [.ptr 2 0,.clo 206 [some 1],.ptr 3 0,.imm .fld a,.int .i64 a.length,.int .i64 i]
theorem c_att (s : El_sub) (hs : good_sub 1048576 s) :
    SpecD S 182 [.agg (enc_sub s),.fn 183] [] (.agg (enc_sub s)) [] := by
 obtain ⟨fi,sa,sk,sp,sr,sf⟩ := s;obtain ⟨⟨a,ha0,hal,hag⟩,hk,⟨p,hp0,hpl,hpg⟩,⟨r,hr0,hrl,hrg⟩,⟨f,hf0,hfl,hfg⟩⟩ := hs;simp only at ha0 hk hp0 hr0 hf0;subst ha0 hp0 hr0 hf0;refine specE ok sh182 rfl ?_;conv=>whnf
 refine loop_of [.cell 3 1 .int] [0,1,2,3,4] (fun vs H => ∃ i : Nat,i ≤ a.length ∧ vs = attV1 a i ∧ H = attH ⟨fi,some a,sk,some p,some r,some f⟩ [outC fi (.own .int 4 0 i .whole) sk (.nils) (.nils) (.nils),.row .int ((a.take i))])
  (fun vs _ => match vs with | [_,_,_,_,_,_,_,.int _ j] => a.length - j.toNat | _ => 0) (by rfl) (by rfl) (by rfl) (by rfl) ⟨0,Nat.zero_le _,rfl,rfl⟩ ?_
 rintro vs H1 ⟨i,hi,rfl,rfl⟩;(conv=>whnf);cases hd : decide ((i : Int) < a.length)
 rotate_left
 · (conv=>whnf);have hil := of_decide_eq_true hd;have hwi : IntKind.i64.wrap ((i : Int) + 1) = ((i + 1 : Nat) : Int) := wrap_i64 (by omega) (by omega);refine ⟨rfl,by omega,by omega,?_⟩;(conv=>whnf);refine ⟨by omega,(by decide : 0 + 1 ≤ 1),?_⟩;rw [show a.getD (Int.toNat (i : Int)) (S.zero .int) = a.getD i (S.zero .int) by rw [Int.toNat_natCast]];have hx := getD_at (show i < a.length by omega) (S.zero .int);have hgx := hag _ (List.mem_of_getElem? hx);have ht : (a.take (i + 1)) = (a.take i) ++ [(a.getD i (S.zero .int))] := take_succ' hx;have htl : ((a.take i)).length = i := by simp; omega
   generalize a.getD i (S.zero .int) = x at hx hgx ht;have hc := c_at1 x;generalize (a.take i) = xs at ht htl;(conv=>whnf);refine cQ [] hc ?_;(conv=>whnf);refine tQ ?_;(conv=>whnf);refine tQ ?_;(conv=>whnf);refine ⟨rfl,by simp,?_⟩;(conv=>whnf);refine ⟨rfl,by show 0 + i ≤ xs.length; omega,fits_of (by show i + 1 ≤ _; omega) (by decide),rfl,?_⟩;(conv=>whnf);refine ⟨[0,1,2,3,6],[],relo_of [0,1,2,3,6] (by rfl) (by rfl),?_⟩;refine ⟨⟨i + 1,by omega,congrArg (attV1 a) hwi,?_⟩,?_⟩
   · rw [ht];have e : xs.take i = xs := by rw [← htl,List.take_length]
     conv => rhs; rw [← e]
     rfl
   · show a.length - (IntKind.i64.wrap ((i : Int) + 1)).toNat < a.length - (i : Int).toNat;rw [hwi]; omega
 have := of_decide_eq_false hd;obtain rfl : i = a.length := by omega
 clear hd hi;rw [List.take_length];conv=>whnf
 refine loop_of [.cell 3 3 .vt] [0,1,2,3,4,5] (fun vs H => ∃ i : Nat,i ≤ p.length ∧ vs = attV2 p i ∧ H = attH ⟨fi,some a,sk,some p,some r,some f⟩ [outC fi (.own .int 4 0 a.length .whole) sk (.own .vt 5 0 i .whole) (.nils) (.nils),.row .int (a),.row .vt ((p.take i))])
  (fun vs _ => match vs with | [_,_,_,_,_,_,.int _ j] => p.length - j.toNat | _ => 0) (by rfl) (by rfl) (by rfl) (by rfl) ⟨0,Nat.zero_le _,rfl,rfl⟩ ?_
 rintro vs H1 ⟨i,hi,rfl,rfl⟩;(conv=>whnf);cases hd : decide ((i : Int) < p.length)
 rotate_left
 · (conv=>whnf);have hil := of_decide_eq_true hd;have hwi : IntKind.i64.wrap ((i : Int) + 1) = ((i + 1 : Nat) : Int) := wrap_i64 (by omega) (by omega);refine ⟨rfl,by omega,by omega,?_⟩;(conv=>whnf);refine ⟨by omega,(by decide : 0 + 3 ≤ 3),?_⟩;rw [show p.getD (Int.toNat (i : Int)) (S.zero .vt) = p.getD i (S.zero .vt) by rw [Int.toNat_natCast]];have hx := getD_at (show i < p.length by omega) (S.zero .vt);have hgx := hpg _ (List.mem_of_getElem? hx);have ht : (p.take (i + 1)) = (p.take i) ++ [(p.getD i (S.zero .vt))] := take_succ' hx;have htl : ((p.take i)).length = i := by simp; omega
   generalize p.getD i (S.zero .vt) = x at hx hgx ht;have hc := c_trn2 x;generalize (p.take i) = xs at ht htl;(conv=>whnf);refine cQ [1] hc ?_;(conv=>whnf);refine tQ ?_;(conv=>whnf);refine tQ ?_;(conv=>whnf);refine ⟨rfl,by simp,?_⟩;(conv=>whnf);refine ⟨rfl,by show 0 + i ≤ xs.length; omega,fits_of (by show i + 1 ≤ _; omega) (by decide),rfl,?_⟩;(conv=>whnf);refine ⟨[0,1,2,3,4,8],[],relo_of [0,1,2,3,4,8] (by rfl) (by rfl),?_⟩;refine ⟨⟨i + 1,by omega,congrArg (attV2 p) hwi,?_⟩,?_⟩
   · rw [ht];have e : xs.take i = xs := by rw [← htl,List.take_length]
     conv => rhs; rw [← e]
     rfl
   · show p.length - (IntKind.i64.wrap ((i : Int) + 1)).toNat < p.length - (i : Int).toNat;rw [hwi]; omega
 have := of_decide_eq_false hd;obtain rfl : i = p.length := by omega
 clear hd hi;rw [List.take_length];conv=>whnf
 refine loop_of [.cell 3 4 .vt] [0,1,2,3,4,5,6] (fun vs H => ∃ i : Nat,i ≤ r.length ∧ vs = attV2 r i ∧ H = attH ⟨fi,some a,sk,some p,some r,some f⟩ [outC fi (.own .int 4 0 a.length .whole) sk (.own .vt 5 0 p.length .whole) (.own .vt 6 0 i .whole) (.nils),.row .int (a),.row .vt (p),.row .vt ((r.take i))])
  (fun vs _ => match vs with | [_,_,_,_,_,_,.int _ j] => r.length - j.toNat | _ => 0) (by rfl) (by rfl) (by rfl) (by rfl) ⟨0,Nat.zero_le _,rfl,rfl⟩ ?_
 rintro vs H1 ⟨i,hi,rfl,rfl⟩;(conv=>whnf);cases hd : decide ((i : Int) < r.length)
 rotate_left
 · (conv=>whnf);have hil := of_decide_eq_true hd;have hwi : IntKind.i64.wrap ((i : Int) + 1) = ((i + 1 : Nat) : Int) := wrap_i64 (by omega) (by omega);refine ⟨rfl,by omega,by omega,?_⟩;(conv=>whnf);refine ⟨by omega,(by decide : 0 + 3 ≤ 3),?_⟩;rw [show r.getD (Int.toNat (i : Int)) (S.zero .vt) = r.getD i (S.zero .vt) by rw [Int.toNat_natCast]];have hx := getD_at (show i < r.length by omega) (S.zero .vt);have hgx := hrg _ (List.mem_of_getElem? hx);have ht : (r.take (i + 1)) = (r.take i) ++ [(r.getD i (S.zero .vt))] := take_succ' hx;have htl : ((r.take i)).length = i := by simp; omega
   generalize r.getD i (S.zero .vt) = x at hx hgx ht;have hc := c_trn2 x;generalize (r.take i) = xs at ht htl;(conv=>whnf);refine cQ [1] hc ?_;(conv=>whnf);refine tQ ?_;(conv=>whnf);refine tQ ?_;(conv=>whnf);refine ⟨rfl,by simp,?_⟩;(conv=>whnf);refine ⟨rfl,by show 0 + i ≤ xs.length; omega,fits_of (by show i + 1 ≤ _; omega) (by decide),rfl,?_⟩;(conv=>whnf);refine ⟨[0,1,2,3,4,5,9],[],relo_of [0,1,2,3,4,5,9] (by rfl) (by rfl),?_⟩;refine ⟨⟨i + 1,by omega,congrArg (attV2 r) hwi,?_⟩,?_⟩
   · rw [ht];have e : xs.take i = xs := by rw [← htl,List.take_length]
     conv => rhs; rw [← e]
     rfl
   · show r.length - (IntKind.i64.wrap ((i : Int) + 1)).toNat < r.length - (i : Int).toNat;rw [hwi]; omega
 have := of_decide_eq_false hd;obtain rfl : i = r.length := by omega
 clear hd hi;rw [List.take_length];conv=>whnf
 refine loop_of [.cell 3 5 .fld] [0,1,2,3,4,5,6,7] (fun vs H => ∃ i : Nat,i ≤ f.length ∧ vs = attV4 f i ∧ H = attH ⟨fi,some a,sk,some p,some r,some f⟩ [outC fi (.own .int 4 0 a.length .whole) sk (.own .vt 5 0 p.length .whole) (.own .vt 6 0 r.length .whole) (.own .fld 7 0 i .whole),.row .int (a),.row .vt (p),.row .vt (r),.row .fld ((f.take i))])
  (fun vs _ => match vs with | [_,_,_,_,_,.int _ j] => f.length - j.toNat | _ => 0) (by rfl) (by rfl) (by rfl) (by rfl) ⟨0,Nat.zero_le _,rfl,rfl⟩ ?_
 rintro vs H1 ⟨i,hi,rfl,rfl⟩;(conv=>whnf);cases hd : decide ((i : Int) < f.length)
 rotate_left
 · (conv=>whnf);have hil := of_decide_eq_true hd;have hwi : IntKind.i64.wrap ((i : Int) + 1) = ((i + 1 : Nat) : Int) := wrap_i64 (by omega) (by omega);refine ⟨rfl,by omega,by omega,?_⟩;(conv=>whnf);refine ⟨by omega,(by decide : 0 + 4 ≤ 4),?_⟩;rw [show f.getD (Int.toNat (i : Int)) (S.zero .fld) = f.getD i (S.zero .fld) by rw [Int.toNat_natCast]];have hx := getD_at (show i < f.length by omega) (S.zero .fld);have hgx := hfg _ (List.mem_of_getElem? hx);have ht : (f.take (i + 1)) = (f.take i) ++ [(f.getD i (S.zero .fld))] := take_succ' hx;have htl : ((f.take i)).length = i := by simp; omega
   generalize f.getD i (S.zero .fld) = x at hx hgx ht;obtain ⟨xn,xu,xh,xm⟩ := x;have hc := c_trn2 ⟨xn,xu,xh⟩;generalize (f.take i) = xs at ht htl;(conv=>whnf);refine cQ [1] hc ?_;(conv=>whnf);refine tQ ?_;(conv=>whnf);refine tQ ?_;(conv=>whnf);refine ⟨rfl,by simp,?_⟩;(conv=>whnf);refine ⟨rfl,by show 0 + i ≤ xs.length; omega,fits_of (by show i + 1 ≤ _; omega) (by decide),rfl,?_⟩;(conv=>whnf);refine ⟨[0,1,2,3,4,5,6,10],[],relo_of [0,1,2,3,4,5,6,10] (by rfl) (by rfl),?_⟩;refine ⟨⟨i + 1,by omega,congrArg (attV4 f) hwi,?_⟩,?_⟩
   · rw [ht];have e : xs.take i = xs := by rw [← htl,List.take_length]
     conv => rhs; rw [← e]
     rfl
   · show f.length - (IntKind.i64.wrap ((i : Int) + 1)).toNat < f.length - (i : Int).toNat;rw [hwi]; omega
 have := of_decide_eq_false hd;obtain rfl : i = f.length := by omega
 clear hd hi;rw [List.take_length];(conv=>whnf);refine endL_of [] [4,5,6,7] (by rfl) (by rfl) (by rfl) trivial ⟨trivial,⟨rfl,by simp⟩,trivial,⟨rfl,by simp⟩,⟨rfl,by simp⟩,⟨rfl,by simp⟩,trivial⟩ ⟨?_,rfl⟩;show (AV.agg [.bool fi,.imm .int (((a).drop 0).take a.length),.int .i64 sk,.imm .vt (((p).drop 0).take p.length),.imm .vt (((r).drop 0).take r.length),.imm .fld (((f).drop 0).take f.length)] : V) = _;rw [drop_take' (by simp),drop_take' (by simp),drop_take' (by simp),drop_take' (by simp)];rfl
end Sh
end Go.Proofs.YtomdfaelgcefdaaGreatDoor
namespace Go.Proofs.YtomdfaelgcefdaaGreatDoor
open Go
namespace Sh
def subOK (e : Int) (s : El_sub) : Bool := okSub e s ((s.supers.getD []).all fun h => decide (0 ≤ h))
def clT (e : Int) : Nat → List El_sub → Option Nat
 | _,[] => none
 | n,s :: r => if subOK e s then clT e (n + 1) r else some n
def clG : Nat → List El_grp → Int × Int
 | _,[] => (0,0)
 | c,g :: r => match clT ((c + (g.types.getD []).length : Nat) : Int) c (g.types.getD []) with
  | some k => ((k : Int),50)
  | none => clG (c + (g.types.getD []).length) r
def closedF (l : List El_grp) : Int × Int := clG 0 l
def pairV (p : Int × Int) : V := .tup [.int .i64 p.1,.int .i64 p.2]
theorem clG_succ {l : List El_grp} {j c : Nat} {g : El_grp} (h : l[j]? = some g) : clG c (l.drop j) = (match clT ((c + (g.types.getD []).length : Nat) : Int) c (g.types.getD []) with
    | some k => ((k : Int),50)
    | none => clG (c + (g.types.getD []).length) (l.drop (j + 1))) := by
 have hj := (List.getElem?_eq_some_iff.1 h).1;have hv := (List.getElem?_eq_some_iff.1 h).2;rw [List.drop_eq_getElem_cons hj,hv,clG]
theorem clT_succ {e : Int} {l : List El_sub} {j n : Nat} {s : El_sub} (h : l[j]? = some s) : clT e n (l.drop j) = if subOK e s then clT e (n + 1) (l.drop (j + 1)) else some n := by
 have hj := (List.getElem?_eq_some_iff.1 h).1;have hv := (List.getElem?_eq_some_iff.1 h).2;rw [List.drop_eq_getElem_cons hj,hv,clT]
def cdV (l : List El_grp) (c : Nat) (j : Int) : List V := [.int .i64 c,.ptr 0 0,.imm .grp l,.int .i64 l.length,.int .i64 j]
def cdV2 (l : List El_grp) (c : Nat) (j : Int) (t : List El_sub) (i : Int) : List V := [.int .i64 c,.ptr 0 0,.imm .grp l,.int .i64 l.length,.int .i64 j,.imm .sub t,.int .i64 t.length,.int .i64 i]
def cdV3 (l : List El_grp) (c : Nat) (j : Int) (t : List El_sub) (i : Int) (a : List Int) (m : Int) : List V := [.int .i64 c,.ptr 0 0,.ptr 1 0,.ptr 2 0,.imm .grp l,.int .i64 l.length,.int .i64 j,.imm .sub t,.int .i64 t.length,.int .i64 i,.imm .int a,.int .i64 a.length,.int .i64 m]
def cdH (e : Nat) : Heap KT ElT := [.cells [.int .i64 e]]
def cdH3 (e : Nat) (s : El_sub) (b : Bool) : Heap KT ElT := [.cells [.int .i64 e],.cells (enc_sub s),.cells [.bool b]]
theorem c_Closed (l : List El_grp) (hl : l.length ≤ 1048576) (hg : ∀ g ∈ l,good_grp 1048576 g) :
    SpecD S 186 [.imm .grp l] [] (pairV (closedF l)) [] := by
 refine specE ok sh186 rfl ?_;conv=>whnf
 refine loop_of [] [0] (fun vs H => ∃ (j c : Nat),j ≤ l.length ∧ c ≤ j * 1048576 ∧ closedF l = clG c (l.drop j) ∧ vs = cdV l c j ∧ H = cdH c)
  (fun vs _ => match vs with | [_,_,_,_,.int _ j] => l.length - j.toNat | _ => 0) (by rfl) (by rfl) (by rfl) (by rfl) ⟨0,0,Nat.zero_le _,Nat.zero_le _,rfl,rfl,rfl⟩ ?_
 rintro vs H1 ⟨j,c,hj,hc,hF,rfl,rfl⟩;(conv=>whnf);cases hd : decide ((j : Int) < l.length)
 · (conv=>whnf);have := of_decide_eq_false hd;obtain rfl : j = l.length := by omega
   rw [List.drop_length] at hF;refine eQ [] ⟨?_,rfl⟩;rw [hF];rfl
 (conv=>whnf);have hjl := of_decide_eq_true hd;have hw : IntKind.i64.wrap ((j : Int) + 1) = ((j + 1 : Nat) : Int) := wrap_i64 (by omega) (by omega);refine ⟨rfl,by omega,by omega,?_⟩;(conv=>whnf);refine ⟨by omega,(by decide : 0 + 2 ≤ 2),?_⟩;rw [show l.getD (Int.toNat (j : Int)) (S.zero .grp) = l.getD j (S.zero .grp) by rw [Int.toNat_natCast]];have hx := getD_at (show j < l.length by omega) (S.zero .grp);have hgx := hg _ (List.mem_of_getElem? hx);have hF2 := clG_succ (c := c) hx;generalize l.getD j (S.zero .grp) = g at hx hgx hF2;obtain ⟨ty,ex⟩ := g;obtain ⟨t,ht0,htl,htg⟩ := hgx;simp only at ht0;subst ht0;simp only [Option.getD_some] at hF2;rw [hF2] at hF;clear hF2;have hwe : IntKind.i64.wrap ((c : Int) + t.length) = ((c + t.length : Nat) : Int) := wrap_i64 (by omega) (by omega);(conv=>whnf);rw [hwe]
 refine loop_of [] [0] (fun vs H => ∃ (i : Nat),i ≤ t.length ∧ closedF l = (match clT ((c + t.length : Nat) : Int) (c + i) (t.drop i) with
     | some k => ((k : Int),50)
     | none => clG (c + t.length) (l.drop (j + 1))) ∧ vs = cdV2 l (c + i) j t i ∧ H = cdH (c + t.length))
  (fun vs _ => match vs with | [_,_,_,_,_,_,_,.int _ j] => t.length - j.toNat | _ => 0) (by rfl) (by rfl) (by rfl) (by rfl) ⟨0,Nat.zero_le _,hF,rfl,rfl⟩ ?_
 clear hF;rintro vs H1 ⟨i,hi,hF,rfl,rfl⟩;(conv=>whnf);cases hd2 : decide ((i : Int) < t.length)
 · (conv=>whnf);have := of_decide_eq_false hd2;obtain rfl : i = t.length := by omega
   rw [List.drop_length] at hF;refine ⟨[0],[],relo_of [0] (by rfl) (by rfl),?_⟩;refine ⟨⟨j + 1,c + t.length,by omega,by omega,hF,congrArg (cdV l (c + t.length)) hw,rfl⟩,?_⟩;show l.length - (IntKind.i64.wrap ((j : Int) + 1)).toNat < l.length - (j : Int).toNat;rw [hw]; omega
 (conv=>whnf);have hil := of_decide_eq_true hd2;have hwi : IntKind.i64.wrap ((i : Int) + 1) = ((i + 1 : Nat) : Int) := wrap_i64 (by omega) (by omega);refine ⟨rfl,by omega,by omega,?_⟩;(conv=>whnf);refine ⟨by omega,(by decide : 0 + 6 ≤ 6),?_⟩;rw [show t.getD (Int.toNat (i : Int)) (S.zero .sub) = t.getD i (S.zero .sub) by rw [Int.toNat_natCast]];have hy := getD_at (show i < t.length by omega) (S.zero .sub);have hgy := htg _ (List.mem_of_getElem? hy);rw [clT_succ hy] at hF;generalize t.getD i (S.zero .sub) = s at hy hgy hF;have hgs := hgy;obtain ⟨fi,sa,sk,sp,sr,sf⟩ := s;obtain ⟨⟨a,ha0,hal,hag⟩,hk,⟨p,hp0,hpl,hpg⟩,⟨r,hr0,hrl,hrg⟩,⟨f,hf0,hfl,hfg⟩⟩ := hgy;simp only at ha0 hk hp0 hr0 hf0;subst ha0 hp0 hr0 hf0;conv=>whnf
 refine loop_of [] [0,1,2] (fun vs H => ∃ (m : Nat),m ≤ a.length ∧ vs = cdV3 l (c + i) j t i a m ∧ H = cdH3 (c + t.length) ⟨fi,some a,sk,some p,some r,some f⟩ ((a.take m).all fun h => decide (0 ≤ h)))
  (fun vs _ => match vs with | [_,_,_,_,_,_,_,_,_,_,_,_,.int _ j] => a.length - j.toNat | _ => 0) (by rfl) (by rfl) (by rfl) (by rfl) ⟨0,Nat.zero_le _,rfl,rfl⟩ ?_
 rintro vs H1 ⟨m,hm,rfl,rfl⟩;(conv=>whnf);cases hd3 : decide ((m : Int) < a.length)
 rotate_left
 · (conv=>whnf);have hml := of_decide_eq_true hd3;have hwm : IntKind.i64.wrap ((m : Int) + 1) = ((m + 1 : Nat) : Int) := wrap_i64 (by omega) (by omega);refine ⟨rfl,by omega,by omega,?_⟩;(conv=>whnf);refine ⟨by omega,(by decide : 0 + 1 ≤ 1),?_⟩;rw [show a.getD (Int.toNat (m : Int)) (S.zero .int) = a.getD m (S.zero .int) by rw [Int.toNat_natCast]];have hz := getD_at (show m < a.length by omega) (S.zero .int);have hst : ((a.take (m + 1)).all fun h => decide (0 ≤ h)) = (((a.take m).all fun h => decide (0 ≤ h)) && decide (0 ≤ a.getD m (S.zero .int))) := by rw [take_succ' hz]; simp
   generalize a.getD m (S.zero .int) = z at hz hst;generalize ((a.take m).all fun h => decide (0 ≤ h)) = q at hst;cases q
   all_goals
    (conv=>whnf);refine ⟨[0,1,2],[],relo_of [0,1,2] (by rfl) (by rfl),?_⟩;refine ⟨⟨m + 1,by omega,congrArg (cdV3 l (c + i) j t i a) hwm,?_⟩,?_⟩
    · rw [hst]; rfl
    · show a.length - (IntKind.i64.wrap ((m : Int) + 1)).toNat < a.length - (m : Int).toNat;rw [hwm]; omega
 have := of_decide_eq_false hd3;obtain rfl : m = a.length := by omega
 rw [List.take_length];have hcl := c_cls ((c + t.length : Nat) : Int) (a.all fun h => decide (0 ≤ h)) _ hgs;have e1 : subOK ((c + t.length : Nat) : Int) ⟨fi,some a,sk,some p,some r,some f⟩ = okSub ((c + t.length : Nat) : Int) ⟨fi,some a,sk,some p,some r,some f⟩ (a.all fun h => decide (0 ≤ h)) := rfl;rw [e1] at hF;generalize okSub ((c + t.length : Nat) : Int) ⟨fi,some a,sk,some p,some r,some f⟩ (a.all fun h => decide (0 ≤ h)) = q at hcl hF;generalize (a.all fun h => decide (0 ≤ h)) = q0 at hcl;(conv=>whnf);refine cQ [2,0] hcl ?_;(conv=>whnf);cases q
 · (conv=>whnf);refine eQ [] ⟨?_,rfl⟩;rw [hF];rfl
 · (conv=>whnf);have hwc : IntKind.i64.wrap (((c + i : Nat) : Int) + 1) = ((c + (i + 1) : Nat) : Int) := wrap_i64 (by omega) (by omega);refine ⟨[0],[],relo_of [0] (by rfl) (by rfl),?_⟩;refine ⟨⟨i + 1,by omega,hF,?_,rfl⟩,?_⟩
   · show ([.int .i64 (IntKind.i64.wrap (((c + i : Nat) : Int) + 1)),.ptr 0 0,.imm .grp l,.int .i64 l.length,.int .i64 j,.imm .sub t,.int .i64 t.length,.int .i64 (IntKind.i64.wrap ((i : Int) + 1))] : List V) = _;rw [hwc,hwi];rfl
   · show t.length - (IntKind.i64.wrap ((i : Int) + 1)).toNat < t.length - (i : Int).toNat;rw [hwi]; omega
end Sh
end Go.Proofs.YtomdfaelgcefdaaGreatDoor
namespace Go.Proofs.YtomdfaelgcefdaaGreatDoor
open Go
namespace Sh
structure CS where
 fams : List El_fam
 es : List (ByteArray × Int)
 many : Nat
def lookE (k : ByteArray) : List (ByteArray × Int) → Option Int
 | [] => none
 | e :: r => if k.toList == e.1.toList then some e.2 else lookE k r
def esV (es : List (ByteArray × Int)) : List (V × V) := es.map fun p => (.str p.1,.int .i64 p.2)
theorem mfind_esV (k : ByteArray) : ∀ (es : List (ByteArray × Int)) (i : Nat),(lookE k es = none ∧ mfind (.str k) (esV es) i = some none) ∨ (∃ v j,lookE k es = some v ∧ mfind (.str k) (esV es) i = some (some (j,.int .i64 v)))
 | [],i => .inl ⟨rfl,rfl⟩
 | e :: r,i => by
  have he : eq1 (.str k : V) (.str e.1) = some (k.toList == e.1.toList) := rfl;simp only [lookE,esV,List.map_cons,mfind,he];cases k.toList == e.1.toList
  · rcases mfind_esV k r (i + 1) with ⟨h1,h2⟩ | ⟨v,j,h1,h2⟩
    · exact .inl ⟨by simpa using h1,h2⟩
    · exact .inr ⟨v,j,by simpa using h1,h2⟩
  · exact .inr ⟨e.2,i,by simp,rfl⟩
theorem look_mem {k : ByteArray} : ∀ {es : List (ByteArray × Int)} {v : Int},lookE k es = some v → ∃ p ∈ es,p.2 = v
 | e :: r,v,h => by
  simp only [lookE] at h;split at h
  · exact ⟨e,by simp,by simpa using h⟩
  · obtain ⟨p,hp,hv⟩ := look_mem h;exact ⟨p,List.mem_cons_of_mem _ hp,hv⟩
def numsF (a : Int) (n : Nat) : List Int := (List.range n).map (fun (i : Nat) => a + (i : Int))
theorem numsF_succ (a : Int) (n : Nat) : numsF a (n + 1) = numsF a n ++ [a + (n : Int)] := by simp [numsF,List.range_succ]
theorem numsF_len (a : Int) (n : Nat) : (numsF a n).length = n := by simp [numsF]
theorem numsF_mem {a x : Int} {n : Nat} (h : x ∈ numsF a n) : a ≤ x ∧ x < a + n := by
 simp only [numsF,List.mem_map,List.mem_range] at h;obtain ⟨i,hi,rfl⟩ := h;omega
def ownG (ids : List Int) (g : El_grp) : List El_sub := (g.types.getD []).map (mapS ids)
noncomputable def addG (most : Int) (s : CS) (ids : List Int) (g : El_grp) : Option (CS × List Int) :=
 match lookE (keyB (ownG ids g)) s.es with
 | some v => some (s,ids ++ numsF (s.fams.getD v.toNat (S.zero .fam)).first (ownG ids g).length)
 | none => if most < (s.many : Int) + (ownG ids g).length then none else some (⟨s.fams ++ [⟨s.many,some (ownG ids g)⟩],s.es ++ [(keyB (ownG ids g),(s.fams.length : Int))],s.many + (ownG ids g).length⟩,ids ++ numsF s.many (ownG ids g).length)
noncomputable def addL (most : Int) : CS → List Int → Nat → List El_grp → CS × List Int × Int
 | s,ids,_,[] => (s,ids,-1)
 | s,ids,j,g :: r => match addG most s ids g with
  | some (s',ids') => addL most s' ids' (j + 1) r
  | none => (s,[],j)
structure okCS (s : CS) (B : Nat) : Prop where
 es : ∀ p ∈ s.es,0 ≤ p.2 ∧ p.2 < s.fams.length
 fams : ∀ f ∈ s.fams,0 ≤ f.first ∧ f.first ≤ B
 many : s.many ≤ B
 len : s.fams.length ≤ B
def okIds (ids : List Int) (B : Nat) : Prop := ∀ x ∈ ids,0 ≤ x ∧ x < B
theorem wrap_range (x : Int) : I64 (IntKind.i64.wrap x) := by
 rw [IntKind.wrap_i64];exact ⟨by omega,by omega⟩
theorem wf_of {x : Int} (h : I64 x) : wf .i64 x := by
 have h2 : IntKind.i64.min ≤ x ∧ x ≤ 9223372036854775807 := h;simpa [wf,Lit.wf] using h2
theorem turnR_ok {ids : List Int} {B : Nat} (hi : okIds ids B) (hB : B ≤ 4611686018427387904) {h : Int} (hh : I64 h) : I64 (turnR ids h) := by
 unfold turnR;split
 · exact hh
 · split
   · have hlt : h.toNat < ids.length := by omega
     have := hi (ids.getD h.toNat 0) (by simp [List.getD,List.getElem?_eq_getElem hlt]);exact ⟨by omega,by omega⟩
   · exact wrap_range _
theorem mapV_ok {ids : List Int} {B : Nat} (hi : okIds ids B) (hB : B ≤ 4611686018427387904) {v : El_vt} (h : good_vt 1048576 v) : good_vt 1048576 (mapV ids v) := by
 unfold mapV;split
 · exact ⟨h.1,wf_of (turnR_ok hi hB (i64_of h.2))⟩
 · exact ⟨h.1,wf_of ⟨by simp,by simp⟩⟩
theorem mapS_ok {ids : List Int} {B : Nat} (hi : okIds ids B) (hB : B ≤ 4611686018427387904) {s : El_sub} (h : good_sub 1048576 s) : good_sub 1048576 (mapS ids s) := by
 obtain ⟨fi,sa,sk,sp,sr,sf⟩ := s;obtain ⟨⟨a,ha0,hal,hag⟩,hk,⟨p,hp0,hpl,hpg⟩,⟨r,hr0,hrl,hrg⟩,⟨f,hf0,hfl,hfg⟩⟩ := h;simp only at ha0 hk hp0 hr0 hf0;subst ha0 hp0 hr0 hf0;refine ⟨⟨_,rfl,by simpa using hal,fun y hy => ?_⟩,hk,⟨_,rfl,by simpa using hpl,fun y hy => ?_⟩,⟨_,rfl,by simpa using hrl,fun y hy => ?_⟩,⟨_,rfl,by simpa using hfl,fun y hy => ?_⟩⟩
 · simp only [Option.getD_some,List.mem_map] at hy;obtain ⟨x,hx,rfl⟩ := hy;exact wf_of (turnR_ok hi hB (i64_of (hag x hx)))
 · simp only [Option.getD_some,List.mem_map] at hy;obtain ⟨x,hx,rfl⟩ := hy;exact mapV_ok hi hB (hpg x hx)
 · simp only [Option.getD_some,List.mem_map] at hy;obtain ⟨x,hx,rfl⟩ := hy;exact mapV_ok hi hB (hrg x hx)
 · simp only [Option.getD_some,List.mem_map] at hy;obtain ⟨x,hx,rfl⟩ := hy;exact mapV_ok (v := ⟨x.num,x.null,x.heap⟩) hi hB (hfg x hx)
theorem ownG_ok {ids : List Int} {B : Nat} (hi : okIds ids B) (hB : B ≤ 4611686018427387904) {g : El_grp} (h : good_grp 1048576 g) : (ownG ids g).length ≤ 1048576 ∧ ∀ s ∈ ownG ids g,good_sub 1048576 s := by
 obtain ⟨t,ht,htl,htg⟩ := h;unfold ownG;rw [ht];refine ⟨by simpa using htl,fun s hs => ?_⟩;simp only [Option.getD_some,List.mem_map] at hs;obtain ⟨x,hx,rfl⟩ := hs;exact mapS_ok hi hB (htg x hx)
theorem flatMap_le {α : Type} (f : α → List (ElT .u8)) (B : Nat) : ∀ (l : List α),(∀ x ∈ l,(f x).length ≤ B) → (l.flatMap f).length ≤ l.length * B
 | [],_ => by simp
 | x :: l,h => by
  have h1 := h x (by simp);have h2 := flatMap_le f B l fun y hy => h y (List.mem_cons_of_mem _ hy);simp only [List.flatMap_cons,List.length_append,List.length_cons,Nat.succ_mul];omega
theorem kN5_len : (kN 5).length = 2 := by
 have h := decI_len 5;rw [Lib.nDigits_small (by decide)] at h;have e : kN 5 = decI 5 ++ [32] := rfl;rw [e,List.length_append,h];rfl
theorem kN0_len : (kN 0).length = 2 := by
 have h := decI_len 0;rw [Lib.nDigits_small (by decide)] at h;have e : kN 0 = decI 0 ++ [32] := rfl;rw [e,List.length_append,h];rfl
theorem kF_len (b : Bool) : (kF b).length ≤ 1 := by cases b <;> simp [kF]
theorem kVm_len {ids : List Int} {B : Nat} (hi : okIds ids B) (hB : B ≤ 4611686018427387904) {v : El_vt} (h : good_vt 1048576 v) : (kV (mapV ids v)).length ≤ 25 := by
 have hh := turnR_ok hi hB (i64_of h.2);have h1 := kN_len _ hh.1 hh.2;have h2 := i64_of h.1;have h3 := kN_len _ h2.1 h2.2;have h4 := kF_len v.null;have k5 := kN5_len;have k0 := kN0_len;unfold mapV;split
 · rename_i h5;have e : kV ⟨v.num,v.null,turnR ids v.heap⟩ = kN 5 ++ kF v.null ++ kN (turnR ids v.heap) := by rw [← h5]; rfl
   rw [e,List.length_append,List.length_append];omega
 · have e : kV ⟨v.num,false,0⟩ = kN v.num ++ [] ++ kN 0 := rfl;rw [e,List.length_append,List.append_nil];omega
theorem kSm_len {ids : List Int} {B : Nat} (hi : okIds ids B) (hB : B ≤ 4611686018427387904) {s : El_sub} (h : good_sub 1048576 s) : (kS (mapS ids s)).length ≤ 102760600 := by
 obtain ⟨fi,sa,sk,sp,sr,sf⟩ := s;obtain ⟨⟨a,ha0,hal,hag⟩,hk,⟨p,hp0,hpl,hpg⟩,⟨r,hr0,hrl,hrg⟩,⟨f,hf0,hfl,hfg⟩⟩ := h;simp only at ha0 hk hp0 hr0 hf0;subst ha0 hp0 hr0 hf0;simp only [kS,mapS,Option.getD_some,List.length_append,List.length_map];have n0 := kF_len fi;have n1 := i64_len hal;have n1 := kN_len _ n1.1 n1.2;have n2 := i64_len hpl;have n2 := kN_len _ n2.1 n2.2;have n3 := i64_len hrl;have n3 := kN_len _ n3.1 n3.2;have n4 := i64_len hfl;have n4 := kN_len _ n4.1 n4.2;have n5 := i64_of hk;have n5 := kN_len _ n5.1 n5.2
 have f1 := flatMap_le kN 22 (a.map (turnR ids)) fun x hx => by
  simp only [List.mem_map] at hx;obtain ⟨y,hy,rfl⟩ := hx;have := turnR_ok hi hB (i64_of (hag y hy));exact kN_len _ this.1 this.2
 have f2 := flatMap_le kV 25 (p.map (mapV ids)) fun x hx => by
  simp only [List.mem_map] at hx;obtain ⟨y,hy,rfl⟩ := hx;exact kVm_len hi hB (hpg y hy)
 have f3 := flatMap_le kV 25 (r.map (mapV ids)) fun x hx => by
  simp only [List.mem_map] at hx;obtain ⟨y,hy,rfl⟩ := hx;exact kVm_len hi hB (hrg y hy)
 have f4 := flatMap_le kD 26 (f.map (mapF ids)) fun x hx => by
  simp only [List.mem_map] at hx;obtain ⟨y,hy,rfl⟩ := hx;have e : kD (mapF ids y) = kF y.mu ++ kV (mapV ids ⟨y.num,y.null,y.heap⟩) := rfl;have e1 := kVm_len (v := ⟨y.num,y.null,y.heap⟩) hi hB (hfg y hy);have e2 := kF_len y.mu;rw [e,List.length_append];omega
 simp only [List.length_map] at f1 f2 f3 f4;omega
theorem keyG_len {ids : List Int} {B : Nat} (hi : okIds ids B) (hB : B ≤ 4611686018427387904) {g : El_grp} (h : good_grp 1048576 g) : (keyL (ownG ids g)).length ≤ 140737488355100 := by
 obtain ⟨t,ht,htl,htg⟩ := h
 have := flatMap_le kS 102760600 (ownG ids g) fun x hx => by
  simp only [ownG,ht,Option.getD_some,List.mem_map] at hx;obtain ⟨y,hy,rfl⟩ := hx;exact kSm_len hi hB (htg y hy)
 have hl : (ownG ids g).length = t.length := by simp [ownG,ht]
 unfold keyL;have h2 : t.length * 102760600 ≤ 1048576 * 102760600 := Nat.mul_le_mul_right _ htl;rw [hl] at this;omega
theorem addL_cons {most : Int} {s : CS} {ids : List Int} {l : List El_grp} {j : Nat} {g : El_grp} (h : l[j]? = some g) : addL most s ids j (l.drop j) = (match addG most s ids g with
    | some (s',ids') => addL most s' ids' (j + 1) (l.drop (j + 1))
    | none => (s,[],j)) := by
 have hj := (List.getElem?_eq_some_iff.1 h).1;have hv := (List.getElem?_eq_some_iff.1 h).2;rw [List.drop_eq_getElem_cons hj,hv,addL]
end Sh
end Go.Proofs.YtomdfaelgcefdaaGreatDoor
