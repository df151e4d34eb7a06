/- CkU. -/
import Derived.Test.YtomdfaelgcefdaaGreatDoorGaz
set_option maxRecDepth 100000
set_option maxHeartbeats 64000000
namespace Go.Proofs.YtomdfaelgcefdaaGreatDoor
open Go
namespace Sh
namespace Ck
variable {c : Cx} {i : In} {lo : List El_vt} {se : List Bool} {re : List El_vt} {op : List El_vt} {fr fs : List El_frame} {f : El_frame} {h m : Nat} {C : Cp}
def lastF (q : List El_vt) : El_vt := q.getD (q.length - 1) zvt
noncomputable def brF (c : Cx) (i : In) (fr : List El_frame) (h : Nat) (d : Bool) (ops : List El_vt) : Int × List El_vt := match i.ty with
 | a :: b :: _ => match labF fr i.x with
  | none => (133,ops)
  | some q => if q.length ≠ 0 ∧ (lastF q).num = 5 then
      (if isF c.l a.heap = true ∧ isF c.l b.heap = true then
       (if valB c.l b a = true ∧ valB c.l (if i.op = 64281 then diffF a b else b) (lastF q) = true then
        swapL c.l h d ops (q.take (q.length - 1) ++ [a]) (q.take (q.length - 1) ++ [if i.op = 64281 then b else diffF a b]) else (131,ops))
      else (150,ops))
   else (131,ops)
 | _ => (1,ops)
theorem c_br0 (G : Gd c.l fs f h m C op) (o x y n : Int)
    : Spec S 77 [.ptr 6 0] (ckK c ⟨o,x,y,n,[]⟩ lo se re m C op (fs ++ [f])) (okK c ⟨o,x,y,n,[]⟩ lo se re (fs ++ [f]) (.int .i64 1) (op.take m)) := by
 have hC := G.hC;have hm := G.hm;refine okK_of rfl (fun _ _ => rfl) ?_;generalize fs ++ [f] = fr at *;clear G;cases C;all_goals try exact absurd rfl hC
 all_goals
  refine specE ok sh77 rfl ?_;(conv=>whnf);exact eQ [0,1,2,3,4,5,6] ⟨rfl,m,_,op,hm,hC,rfl,.inl rfl⟩
theorem c_br1 (G : Gd c.l fs f h m C op) (o x y n : Int) (a : El_vt)
    : Spec S 77 [.ptr 6 0] (ckK c ⟨o,x,y,n,[a]⟩ lo se re m C op (fs ++ [f])) (okK c ⟨o,x,y,n,[a]⟩ lo se re (fs ++ [f]) (.int .i64 1) (op.take m)) := by
 have hC := G.hC;have hm := G.hm;refine okK_of rfl (fun _ _ => rfl) ?_;generalize fs ++ [f] = fr at *;clear G;cases C;all_goals try exact absurd rfl hC
 all_goals
  refine specE ok sh77 rfl ?_;(conv=>whnf);exact eQ [0,1,2,3,4,5,6] ⟨rfl,m,_,op,hm,hC,rfl,.inl rfl⟩
theorem c_br2 (G : Gd c.l fs f h m C op) (o x y n : Int) (a b : El_vt) (r : List El_vt)
    (hlb : ∀ C',SpecD S 101 [.ptr 0 0,.int .u32 x] (ck c.l lo se re m C' op (fs ++ [f])) (.tup [.nils,.int .i64 133]) (ck c.l lo se re m C' op (fs ++ [f])))
    : Spec S 77 [.ptr 6 0] (ckK c ⟨o,x,y,n,(a :: b :: r)⟩ lo se re m C op (fs ++ [f])) (okK c ⟨o,x,y,n,(a :: b :: r)⟩ lo se re (fs ++ [f]) (.int .i64 133) (op.take m)) := by
 have hC := G.hC;have hm := G.hm;refine okK_of rfl (fun _ _ => rfl) ?_;have hd : decide (((a :: b :: r).length : Int) < 2) = false := decide_eq_false (by simp; omega);generalize fs ++ [f] = fr at *;clear G;have hll := hlb C;cases C;all_goals try exact absurd rfl hC
 all_goals
  refine specE ok sh77 rfl ?_;(conv=>whnf);refine cQ [0,1,2,3,4,5] hll ?_;(conv=>whnf);exact eQ [0,1,2,3,4,5,6] ⟨rfl,m,_,op,hm,hC,rfl,.inl rfl⟩
theorem c_br3 (G : Gd c.l fs f h m C op) (o x y n : Int) (a b : El_vt) (r : List El_vt) (q : List El_vt) (_hql : q.length ≤ 4000000) (hq : q.length = 0)
    (hlb : ∀ C',SpecD S 101 [.ptr 0 0,.int .u32 x] (ck c.l lo se re m C' op (fs ++ [f])) (.tup [.own .vt 6 0 q.length .whole,.int .i64 0]) (ck c.l lo se re m C' op (fs ++ [f]) ++ [.row .vt q]))
    : Spec S 77 [.ptr 6 0] (ckK c ⟨o,x,y,n,(a :: b :: r)⟩ lo se re m C op (fs ++ [f])) (okK c ⟨o,x,y,n,(a :: b :: r)⟩ lo se re (fs ++ [f]) (.int .i64 131) (op.take m)) := by
 have hC := G.hC;have hm := G.hm;refine okK_of rfl (fun _ _ => rfl) ?_;have hd : decide (((a :: b :: r).length : Int) < 2) = false := decide_eq_false (by simp; omega);have e0 : ((q.length : Int) == 0) = true := by rw [hq]; rfl
 generalize fs ++ [f] = fr at *;clear G;have hll := hlb C;cases C;all_goals try exact absurd rfl hC
 all_goals
  refine specE ok sh77 rfl ?_;(conv=>whnf);refine cQ [0,1,2,3,4,5] hll ?_;(conv=>whnf);simp only [e0];(conv=>whnf);exact eQ [0,1,2,3,4,5,6] ⟨rfl,m,_,op,hm,hC,rfl,.inl rfl⟩
theorem c_br4 (G : Gd c.l fs f h m C op) (o x y n : Int) (a b : El_vt) (r : List El_vt) (q : List El_vt) (hql : q.length ≤ 4000000) (hq : ¬ q.length = 0) (h5 : ¬ (lastF q).num = 5)
    (hlb : ∀ C',SpecD S 101 [.ptr 0 0,.int .u32 x] (ck c.l lo se re m C' op (fs ++ [f])) (.tup [.own .vt 6 0 q.length .whole,.int .i64 0]) (ck c.l lo se re m C' op (fs ++ [f]) ++ [.row .vt q]))
    : Spec S 77 [.ptr 6 0] (ckK c ⟨o,x,y,n,(a :: b :: r)⟩ lo se re m C op (fs ++ [f])) (okK c ⟨o,x,y,n,(a :: b :: r)⟩ lo se re (fs ++ [f]) (.int .i64 131) (op.take m)) := by
 have hC := G.hC;have hm := G.hm;refine okK_of rfl (fun _ _ => rfl) ?_;have hd : decide (((a :: b :: r).length : Int) < 2) = false := decide_eq_false (by simp; omega);have e0 : ((q.length : Int) == 0) = false := by simpa using hq
 have hw : IntKind.i64.wrap ((q.length : Int) - 1) = ((q.length - 1 : Nat) : Int) := by rw [wrap_i64 (by omega) (by omega)]; omega
 have hz : q.getD (q.length - 1) (S.zero .vt) = lastF q := rfl;generalize lastF q = z at *;have e5 : (z.num == 5) = false := by simpa using h5
 generalize fs ++ [f] = fr at *;clear G;have hll := hlb C;cases C;all_goals try exact absurd rfl hC
 all_goals
  refine specE ok sh77 rfl ?_;(conv=>whnf);refine cQ [0,1,2,3,4,5] hll ?_;(conv=>whnf);simp only [e0];(conv=>whnf);rw [hw];refine ⟨rfl,by omega,by omega,?_⟩;rw [show 0 + Int.toNat ((q.length - 1 : Nat) : Int) = q.length - 1 by rw [Nat.zero_add,Int.toNat_natCast]];(conv=>whnf);refine ⟨rfl,by omega,by decide,?_⟩;rw [hz];(conv=>whnf);simp only [bne,e5];(conv=>whnf);exact eQ [0,1,2,3,4,5,6] ⟨rfl,m,_,op,hm,hC,rfl,.inl rfl⟩
theorem c_br5 (G : Gd c.l fs f h m C op) (o x y n : Int) (a b : El_vt) (r : List El_vt) (q : List El_vt) (hql : q.length ≤ 4000000) (hq : ¬ q.length = 0) (h5 : (lastF q).num = 5) (kb : Bool)
    (hka : ∀ C',SpecD S 115 [.ptr 6 0,.int .i64 a.heap] (ckK c ⟨o,x,y,n,a :: b :: r⟩ lo se re m C' op (fs ++ [f])) (.bool false) (ckK c ⟨o,x,y,n,a :: b :: r⟩ lo se re m C' op (fs ++ [f])))
    (hkb : ∀ C',SpecD S 115 [.ptr 6 0,.int .i64 b.heap] (ckK c ⟨o,x,y,n,a :: b :: r⟩ lo se re m C' op (fs ++ [f])) (.bool kb) (ckK c ⟨o,x,y,n,a :: b :: r⟩ lo se re m C' op (fs ++ [f])))
    (hlb : ∀ C',SpecD S 101 [.ptr 0 0,.int .u32 x] (ck c.l lo se re m C' op (fs ++ [f])) (.tup [.own .vt 6 0 q.length .whole,.int .i64 0]) (ck c.l lo se re m C' op (fs ++ [f]) ++ [.row .vt q]))
    : Spec S 77 [.ptr 6 0] (ckK c ⟨o,x,y,n,(a :: b :: r)⟩ lo se re m C op (fs ++ [f])) (okK c ⟨o,x,y,n,(a :: b :: r)⟩ lo se re (fs ++ [f]) (.int .i64 150) (op.take m)) := by
 have hC := G.hC;have hm := G.hm;refine okK_of rfl (fun _ _ => rfl) ?_;have hd : decide (((a :: b :: r).length : Int) < 2) = false := decide_eq_false (by simp; omega);have e0 : ((q.length : Int) == 0) = false := by simpa using hq
 have hw : IntKind.i64.wrap ((q.length : Int) - 1) = ((q.length - 1 : Nat) : Int) := by rw [wrap_i64 (by omega) (by omega)]; omega
 have hz : q.getD (q.length - 1) (S.zero .vt) = lastF q := rfl;generalize lastF q = z at *;have e5 : (z.num == 5) = true := by simpa using h5
 generalize fs ++ [f] = fr at *;clear G;have hll := hlb C;have hkaa := hka C;have hkbb := hkb C;cases C;all_goals try exact absurd rfl hC
 all_goals
  refine specE ok sh77 rfl ?_;(conv=>whnf);refine cQ [0,1,2,3,4,5] hll ?_;(conv=>whnf);simp only [e0];(conv=>whnf);rw [hw];refine ⟨rfl,by omega,by omega,?_⟩;rw [show 0 + Int.toNat ((q.length - 1 : Nat) : Int) = q.length - 1 by rw [Nat.zero_add,Int.toNat_natCast]];(conv=>whnf);refine ⟨rfl,by omega,by decide,?_⟩;rw [hz];(conv=>whnf);simp only [bne,e5];(conv=>whnf);refine ⟨rfl,by decide,by show (0 : Int) < ((a :: b :: r).length : Nat); simp <;> omega,?_⟩
  (conv=>whnf);refine ⟨by show 0 < (a :: b :: r).length; simp,by decide,?_⟩;(conv=>whnf);refine ⟨rfl,by decide,by show (1 : Int) < ((a :: b :: r).length : Nat); simp <;> omega,?_⟩
  (conv=>whnf);refine ⟨by show 1 < (a :: b :: r).length; simp,by decide,?_⟩;(conv=>whnf);refine ⟨?_,?_⟩
  all_goals
   (conv=>whnf);try (refine ⟨by trivial,?_⟩;conv=>whnf)
   try (refine ⟨by trivial,?_⟩;conv=>whnf)
   try (refine ⟨by trivial,?_⟩;conv=>whnf)
   refine cQ [0,1,2,3,4,5,6] hkaa ?_;(conv=>whnf);exact eQ [0,1,2,3,4,5,6] ⟨rfl,m,_,op,hm,hC,rfl,.inl rfl⟩
theorem c_br6 (G : Gd c.l fs f h m C op) (o x y n : Int) (a b : El_vt) (r : List El_vt) (q : List El_vt) (hql : q.length ≤ 4000000) (hq : ¬ q.length = 0) (h5 : (lastF q).num = 5)
    (hka : ∀ C',SpecD S 115 [.ptr 6 0,.int .i64 a.heap] (ckK c ⟨o,x,y,n,a :: b :: r⟩ lo se re m C' op (fs ++ [f])) (.bool true) (ckK c ⟨o,x,y,n,a :: b :: r⟩ lo se re m C' op (fs ++ [f])))
    (hkb : ∀ C',SpecD S 115 [.ptr 6 0,.int .i64 b.heap] (ckK c ⟨o,x,y,n,a :: b :: r⟩ lo se re m C' op (fs ++ [f])) (.bool false) (ckK c ⟨o,x,y,n,a :: b :: r⟩ lo se re m C' op (fs ++ [f])))
    (hlb : ∀ C',SpecD S 101 [.ptr 0 0,.int .u32 x] (ck c.l lo se re m C' op (fs ++ [f])) (.tup [.own .vt 6 0 q.length .whole,.int .i64 0]) (ck c.l lo se re m C' op (fs ++ [f]) ++ [.row .vt q]))
    : Spec S 77 [.ptr 6 0] (ckK c ⟨o,x,y,n,(a :: b :: r)⟩ lo se re m C op (fs ++ [f])) (okK c ⟨o,x,y,n,(a :: b :: r)⟩ lo se re (fs ++ [f]) (.int .i64 150) (op.take m)) := by
 have hC := G.hC;have hm := G.hm;refine okK_of rfl (fun _ _ => rfl) ?_;have hd : decide (((a :: b :: r).length : Int) < 2) = false := decide_eq_false (by simp; omega);have e0 : ((q.length : Int) == 0) = false := by simpa using hq
 have hw : IntKind.i64.wrap ((q.length : Int) - 1) = ((q.length - 1 : Nat) : Int) := by rw [wrap_i64 (by omega) (by omega)]; omega
 have hz : q.getD (q.length - 1) (S.zero .vt) = lastF q := rfl;generalize lastF q = z at *;have e5 : (z.num == 5) = true := by simpa using h5
 generalize fs ++ [f] = fr at *;clear G;have hll := hlb C;have hkaa := hka C;have hkbb := hkb C;cases C;all_goals try exact absurd rfl hC
 all_goals
  refine specE ok sh77 rfl ?_;(conv=>whnf);refine cQ [0,1,2,3,4,5] hll ?_;(conv=>whnf);simp only [e0];(conv=>whnf);rw [hw];refine ⟨rfl,by omega,by omega,?_⟩;rw [show 0 + Int.toNat ((q.length - 1 : Nat) : Int) = q.length - 1 by rw [Nat.zero_add,Int.toNat_natCast]];(conv=>whnf);refine ⟨rfl,by omega,by decide,?_⟩;rw [hz];(conv=>whnf);simp only [bne,e5];(conv=>whnf);refine ⟨rfl,by decide,by show (0 : Int) < ((a :: b :: r).length : Nat); simp <;> omega,?_⟩
  (conv=>whnf);refine ⟨by show 0 < (a :: b :: r).length; simp,by decide,?_⟩;(conv=>whnf);refine ⟨rfl,by decide,by show (1 : Int) < ((a :: b :: r).length : Nat); simp <;> omega,?_⟩
  (conv=>whnf);refine ⟨by show 1 < (a :: b :: r).length; simp,by decide,?_⟩;(conv=>whnf);refine ⟨?_,?_⟩
  all_goals
   (conv=>whnf);try (refine ⟨by trivial,?_⟩;conv=>whnf)
   try (refine ⟨by trivial,?_⟩;conv=>whnf)
   try (refine ⟨by trivial,?_⟩;conv=>whnf)
   refine cQ [0,1,2,3,4,5,6] hkaa ?_;(conv=>whnf);refine cQ [0,1,2,3,4,5,6] hkbb ?_;(conv=>whnf);exact eQ [0,1,2,3,4,5,6] ⟨rfl,m,_,op,hm,hC,rfl,.inl rfl⟩
theorem c_br7 (G : Gd c.l fs f h m C op) (o x y n : Int) (a b : El_vt) (r : List El_vt) (q : List El_vt) (hql : q.length ≤ 4000000) (hq : ¬ q.length = 0) (h5 : (lastF q).num = 5) (ho : (o == 64281) = false) (hv1e : valB c.l b a = false)
    (hka : ∀ C',SpecD S 115 [.ptr 6 0,.int .i64 a.heap] (ckK c ⟨o,x,y,n,a :: b :: r⟩ lo se re m C' op (fs ++ [f])) (.bool true) (ckK c ⟨o,x,y,n,a :: b :: r⟩ lo se re m C' op (fs ++ [f])))
    (hkb : ∀ C',SpecD S 115 [.ptr 6 0,.int .i64 b.heap] (ckK c ⟨o,x,y,n,a :: b :: r⟩ lo se re m C' op (fs ++ [f])) (.bool true) (ckK c ⟨o,x,y,n,a :: b :: r⟩ lo se re m C' op (fs ++ [f])))
    (hlb : ∀ C',SpecD S 101 [.ptr 0 0,.int .u32 x] (ck c.l lo se re m C' op (fs ++ [f])) (.tup [.own .vt 6 0 q.length .whole,.int .i64 0]) (ck c.l lo se re m C' op (fs ++ [f]) ++ [.row .vt q]))
    : Spec S 77 [.ptr 6 0] (ckK c ⟨o,x,y,n,(a :: b :: r)⟩ lo se re m C op (fs ++ [f])) (okK c ⟨o,x,y,n,(a :: b :: r)⟩ lo se re (fs ++ [f]) (.int .i64 131) (op.take m)) := by
 have hC := G.hC;have hm := G.hm;refine okK_of rfl (fun _ _ => rfl) ?_;have hd : decide (((a :: b :: r).length : Int) < 2) = false := decide_eq_false (by simp; omega);have eo : (o == 64281) = false := ho;have hv1 := c_Val c.l G.hl G.hg b a;rw [hv1e] at hv1;have hdf := c_Diff a b;have e0 : ((q.length : Int) == 0) = false := by simpa using hq
 have hw : IntKind.i64.wrap ((q.length : Int) - 1) = ((q.length - 1 : Nat) : Int) := by rw [wrap_i64 (by omega) (by omega)]; omega
 have hz : q.getD (q.length - 1) (S.zero .vt) = lastF q := rfl;generalize lastF q = z at *;have e5 : (z.num == 5) = true := by simpa using h5
 generalize fs ++ [f] = fr at *;clear G;have hll := hlb C;have hkaa := hka C;have hkbb := hkb C;cases C;all_goals try exact absurd rfl hC
 all_goals
  refine specE ok sh77 rfl ?_;(conv=>whnf);refine cQ [0,1,2,3,4,5] hll ?_;(conv=>whnf);simp only [e0];(conv=>whnf);rw [hw];refine ⟨rfl,by omega,by omega,?_⟩;rw [show 0 + Int.toNat ((q.length - 1 : Nat) : Int) = q.length - 1 by rw [Nat.zero_add,Int.toNat_natCast]];(conv=>whnf);refine ⟨rfl,by omega,by decide,?_⟩;rw [hz];(conv=>whnf);simp only [bne,e5];(conv=>whnf);refine ⟨rfl,by decide,by show (0 : Int) < ((a :: b :: r).length : Nat); simp <;> omega,?_⟩
  (conv=>whnf);refine ⟨by show 0 < (a :: b :: r).length; simp,by decide,?_⟩;(conv=>whnf);refine ⟨rfl,by decide,by show (1 : Int) < ((a :: b :: r).length : Nat); simp <;> omega,?_⟩
  (conv=>whnf);refine ⟨by show 1 < (a :: b :: r).length; simp,by decide,?_⟩;(conv=>whnf);refine ⟨?_,?_⟩
  all_goals
   (conv=>whnf);try (refine ⟨by trivial,?_⟩;conv=>whnf)
   try (refine ⟨by trivial,?_⟩;conv=>whnf)
   try (refine ⟨by trivial,?_⟩;conv=>whnf)
   refine cQ [0,1,2,3,4,5,6] hkaa ?_;(conv=>whnf);refine cQ [0,1,2,3,4,5,6] hkbb ?_;(conv=>whnf);refine ⟨?_,?_⟩
   · (conv=>whnf);refine cQ [] hdf ?_;(conv=>whnf);try (refine ⟨by trivial,?_⟩;conv=>whnf)
     refine ⟨?_,?_⟩
     all_goals
      (conv=>whnf);try (refine ⟨by trivial,?_⟩;conv=>whnf)
      try (refine ⟨by trivial,?_⟩;conv=>whnf)
      try (refine ⟨by trivial,?_⟩;conv=>whnf)
      try (refine ⟨by trivial,?_⟩;conv=>whnf)
      simp only [eo];(conv=>whnf);rw [hw];refine ⟨rfl,by omega,by omega,by omega,rfl,?_⟩;rw [show (Int.toNat ((q.length - 1 : Nat) : Int) - Int.toNat 0) = q.length - 1 by rw [Int.toNat_natCast]; rfl,show (0 + Int.toNat 0) = 0 from rfl];(conv=>whnf);rw [hw];refine ⟨rfl,by omega,by omega,?_⟩;rw [show 0 + Int.toNat ((q.length - 1 : Nat) : Int) = q.length - 1 by rw [Nat.zero_add,Int.toNat_natCast]];(conv=>whnf);refine ⟨rfl,by omega,by decide,?_⟩;rw [hz];(conv=>whnf);try (refine ⟨by trivial,?_⟩;conv=>whnf)
      try (refine ⟨by trivial,?_⟩;conv=>whnf)
      refine cQ [] hv1 ?_;(conv=>whnf);exact eQ [0,1,2,3,4,5,6] ⟨rfl,m,_,op,hm,hC,rfl,.inl rfl⟩
   · refine ⟨?_,?_⟩
     all_goals
      (conv=>whnf);try (refine ⟨by trivial,?_⟩;conv=>whnf)
      refine ⟨?_,?_⟩
      · (conv=>whnf);refine cQ [] hdf ?_;(conv=>whnf);try (refine ⟨by trivial,?_⟩;conv=>whnf)
        try (refine ⟨by trivial,?_⟩;conv=>whnf)
        try (refine ⟨by trivial,?_⟩;conv=>whnf)
        try (refine ⟨by trivial,?_⟩;conv=>whnf)
        simp only [eo];(conv=>whnf);rw [hw];refine ⟨rfl,by omega,by omega,by omega,rfl,?_⟩;rw [show (Int.toNat ((q.length - 1 : Nat) : Int) - Int.toNat 0) = q.length - 1 by rw [Int.toNat_natCast]; rfl,show (0 + Int.toNat 0) = 0 from rfl];(conv=>whnf);rw [hw];refine ⟨rfl,by omega,by omega,?_⟩;rw [show 0 + Int.toNat ((q.length - 1 : Nat) : Int) = q.length - 1 by rw [Nat.zero_add,Int.toNat_natCast]];(conv=>whnf);refine ⟨rfl,by omega,by decide,?_⟩;rw [hz];(conv=>whnf);try (refine ⟨by trivial,?_⟩;conv=>whnf)
        try (refine ⟨by trivial,?_⟩;conv=>whnf)
        refine cQ [] hv1 ?_;(conv=>whnf);exact eQ [0,1,2,3,4,5,6] ⟨rfl,m,_,op,hm,hC,rfl,.inl rfl⟩
      · (conv=>whnf);try (refine ⟨by trivial,?_⟩;conv=>whnf)
        refine cQ [] hdf ?_;(conv=>whnf);try (refine ⟨by trivial,?_⟩;conv=>whnf)
        try (refine ⟨by trivial,?_⟩;conv=>whnf)
        try (refine ⟨by trivial,?_⟩;conv=>whnf)
        try (refine ⟨by trivial,?_⟩;conv=>whnf)
        simp only [eo];(conv=>whnf);rw [hw];refine ⟨rfl,by omega,by omega,by omega,rfl,?_⟩;rw [show (Int.toNat ((q.length - 1 : Nat) : Int) - Int.toNat 0) = q.length - 1 by rw [Int.toNat_natCast]; rfl,show (0 + Int.toNat 0) = 0 from rfl];(conv=>whnf);rw [hw];refine ⟨rfl,by omega,by omega,?_⟩;rw [show 0 + Int.toNat ((q.length - 1 : Nat) : Int) = q.length - 1 by rw [Nat.zero_add,Int.toNat_natCast]];(conv=>whnf);refine ⟨rfl,by omega,by decide,?_⟩;rw [hz];(conv=>whnf);try (refine ⟨by trivial,?_⟩;conv=>whnf)
        try (refine ⟨by trivial,?_⟩;conv=>whnf)
        refine cQ [] hv1 ?_;(conv=>whnf);exact eQ [0,1,2,3,4,5,6] ⟨rfl,m,_,op,hm,hC,rfl,.inl rfl⟩
theorem c_br8 (G : Gd c.l fs f h m C op) (o x y n : Int) (a b : El_vt) (r : List El_vt) (q : List El_vt) (hql : q.length ≤ 4000000) (hq : ¬ q.length = 0) (h5 : (lastF q).num = 5) (ho : (o == 64281) = true) (hv1e : valB c.l b a = false)
    (hka : ∀ C',SpecD S 115 [.ptr 6 0,.int .i64 a.heap] (ckK c ⟨o,x,y,n,a :: b :: r⟩ lo se re m C' op (fs ++ [f])) (.bool true) (ckK c ⟨o,x,y,n,a :: b :: r⟩ lo se re m C' op (fs ++ [f])))
    (hkb : ∀ C',SpecD S 115 [.ptr 6 0,.int .i64 b.heap] (ckK c ⟨o,x,y,n,a :: b :: r⟩ lo se re m C' op (fs ++ [f])) (.bool true) (ckK c ⟨o,x,y,n,a :: b :: r⟩ lo se re m C' op (fs ++ [f])))
    (hlb : ∀ C',SpecD S 101 [.ptr 0 0,.int .u32 x] (ck c.l lo se re m C' op (fs ++ [f])) (.tup [.own .vt 6 0 q.length .whole,.int .i64 0]) (ck c.l lo se re m C' op (fs ++ [f]) ++ [.row .vt q]))
    : Spec S 77 [.ptr 6 0] (ckK c ⟨o,x,y,n,(a :: b :: r)⟩ lo se re m C op (fs ++ [f])) (okK c ⟨o,x,y,n,(a :: b :: r)⟩ lo se re (fs ++ [f]) (.int .i64 131) (op.take m)) := by
 have hC := G.hC;have hm := G.hm;refine okK_of rfl (fun _ _ => rfl) ?_;have hd : decide (((a :: b :: r).length : Int) < 2) = false := decide_eq_false (by simp; omega);have eo : (o == 64281) = true := ho;have hv1 := c_Val c.l G.hl G.hg b a;rw [hv1e] at hv1;have hdf := c_Diff a b;have e0 : ((q.length : Int) == 0) = false := by simpa using hq
 have hw : IntKind.i64.wrap ((q.length : Int) - 1) = ((q.length - 1 : Nat) : Int) := by rw [wrap_i64 (by omega) (by omega)]; omega
 have hz : q.getD (q.length - 1) (S.zero .vt) = lastF q := rfl;generalize lastF q = z at *;have e5 : (z.num == 5) = true := by simpa using h5
 generalize fs ++ [f] = fr at *;clear G;have hll := hlb C;have hkaa := hka C;have hkbb := hkb C;cases C;all_goals try exact absurd rfl hC
 all_goals
  refine specE ok sh77 rfl ?_;(conv=>whnf);refine cQ [0,1,2,3,4,5] hll ?_;(conv=>whnf);simp only [e0];(conv=>whnf);rw [hw];refine ⟨rfl,by omega,by omega,?_⟩;rw [show 0 + Int.toNat ((q.length - 1 : Nat) : Int) = q.length - 1 by rw [Nat.zero_add,Int.toNat_natCast]];(conv=>whnf);refine ⟨rfl,by omega,by decide,?_⟩;rw [hz];(conv=>whnf);simp only [bne,e5];(conv=>whnf);refine ⟨rfl,by decide,by show (0 : Int) < ((a :: b :: r).length : Nat); simp <;> omega,?_⟩
  (conv=>whnf);refine ⟨by show 0 < (a :: b :: r).length; simp,by decide,?_⟩;(conv=>whnf);refine ⟨rfl,by decide,by show (1 : Int) < ((a :: b :: r).length : Nat); simp <;> omega,?_⟩
  (conv=>whnf);refine ⟨by show 1 < (a :: b :: r).length; simp,by decide,?_⟩;(conv=>whnf);refine ⟨?_,?_⟩
  all_goals
   (conv=>whnf);try (refine ⟨by trivial,?_⟩;conv=>whnf)
   try (refine ⟨by trivial,?_⟩;conv=>whnf)
   try (refine ⟨by trivial,?_⟩;conv=>whnf)
   refine cQ [0,1,2,3,4,5,6] hkaa ?_;(conv=>whnf);refine cQ [0,1,2,3,4,5,6] hkbb ?_;(conv=>whnf);refine ⟨?_,?_⟩
   · (conv=>whnf);refine cQ [] hdf ?_;(conv=>whnf);try (refine ⟨by trivial,?_⟩;conv=>whnf)
     refine ⟨?_,?_⟩
     all_goals
      (conv=>whnf);try (refine ⟨by trivial,?_⟩;conv=>whnf)
      try (refine ⟨by trivial,?_⟩;conv=>whnf)
      try (refine ⟨by trivial,?_⟩;conv=>whnf)
      try (refine ⟨by trivial,?_⟩;conv=>whnf)
      simp only [eo];(conv=>whnf);rw [hw];refine ⟨rfl,by omega,by omega,by omega,rfl,?_⟩;rw [show (Int.toNat ((q.length - 1 : Nat) : Int) - Int.toNat 0) = q.length - 1 by rw [Int.toNat_natCast]; rfl,show (0 + Int.toNat 0) = 0 from rfl];(conv=>whnf);rw [hw];refine ⟨rfl,by omega,by omega,?_⟩;rw [show 0 + Int.toNat ((q.length - 1 : Nat) : Int) = q.length - 1 by rw [Nat.zero_add,Int.toNat_natCast]];(conv=>whnf);refine ⟨rfl,by omega,by decide,?_⟩;rw [hz];(conv=>whnf);try (refine ⟨by trivial,?_⟩;conv=>whnf)
      try (refine ⟨by trivial,?_⟩;conv=>whnf)
      refine cQ [] hv1 ?_;(conv=>whnf);exact eQ [0,1,2,3,4,5,6] ⟨rfl,m,_,op,hm,hC,rfl,.inl rfl⟩
   · refine ⟨?_,?_⟩
     all_goals
      (conv=>whnf);try (refine ⟨by trivial,?_⟩;conv=>whnf)
      refine ⟨?_,?_⟩
      · (conv=>whnf);refine cQ [] hdf ?_;(conv=>whnf);try (refine ⟨by trivial,?_⟩;conv=>whnf)
        try (refine ⟨by trivial,?_⟩;conv=>whnf)
        try (refine ⟨by trivial,?_⟩;conv=>whnf)
        try (refine ⟨by trivial,?_⟩;conv=>whnf)
        simp only [eo];(conv=>whnf);rw [hw];refine ⟨rfl,by omega,by omega,by omega,rfl,?_⟩;rw [show (Int.toNat ((q.length - 1 : Nat) : Int) - Int.toNat 0) = q.length - 1 by rw [Int.toNat_natCast]; rfl,show (0 + Int.toNat 0) = 0 from rfl];(conv=>whnf);rw [hw];refine ⟨rfl,by omega,by omega,?_⟩;rw [show 0 + Int.toNat ((q.length - 1 : Nat) : Int) = q.length - 1 by rw [Nat.zero_add,Int.toNat_natCast]];(conv=>whnf);refine ⟨rfl,by omega,by decide,?_⟩;rw [hz];(conv=>whnf);try (refine ⟨by trivial,?_⟩;conv=>whnf)
        try (refine ⟨by trivial,?_⟩;conv=>whnf)
        refine cQ [] hv1 ?_;(conv=>whnf);exact eQ [0,1,2,3,4,5,6] ⟨rfl,m,_,op,hm,hC,rfl,.inl rfl⟩
      · (conv=>whnf);try (refine ⟨by trivial,?_⟩;conv=>whnf)
        refine cQ [] hdf ?_;(conv=>whnf);try (refine ⟨by trivial,?_⟩;conv=>whnf)
        try (refine ⟨by trivial,?_⟩;conv=>whnf)
        try (refine ⟨by trivial,?_⟩;conv=>whnf)
        try (refine ⟨by trivial,?_⟩;conv=>whnf)
        simp only [eo];(conv=>whnf);rw [hw];refine ⟨rfl,by omega,by omega,by omega,rfl,?_⟩;rw [show (Int.toNat ((q.length - 1 : Nat) : Int) - Int.toNat 0) = q.length - 1 by rw [Int.toNat_natCast]; rfl,show (0 + Int.toNat 0) = 0 from rfl];(conv=>whnf);rw [hw];refine ⟨rfl,by omega,by omega,?_⟩;rw [show 0 + Int.toNat ((q.length - 1 : Nat) : Int) = q.length - 1 by rw [Nat.zero_add,Int.toNat_natCast]];(conv=>whnf);refine ⟨rfl,by omega,by decide,?_⟩;rw [hz];(conv=>whnf);try (refine ⟨by trivial,?_⟩;conv=>whnf)
        try (refine ⟨by trivial,?_⟩;conv=>whnf)
        refine cQ [] hv1 ?_;(conv=>whnf);exact eQ [0,1,2,3,4,5,6] ⟨rfl,m,_,op,hm,hC,rfl,.inl rfl⟩
theorem c_br9 (G : Gd c.l fs f h m C op) (o x y n : Int) (a b : El_vt) (r : List El_vt) (q : List El_vt) (hql : q.length ≤ 4000000) (hq : ¬ q.length = 0) (h5 : (lastF q).num = 5) (ho : (o == 64281) = false) (hv1e : valB c.l b a = true) (hv2e : valB c.l b (lastF q) = false)
    (hka : ∀ C',SpecD S 115 [.ptr 6 0,.int .i64 a.heap] (ckK c ⟨o,x,y,n,a :: b :: r⟩ lo se re m C' op (fs ++ [f])) (.bool true) (ckK c ⟨o,x,y,n,a :: b :: r⟩ lo se re m C' op (fs ++ [f])))
    (hkb : ∀ C',SpecD S 115 [.ptr 6 0,.int .i64 b.heap] (ckK c ⟨o,x,y,n,a :: b :: r⟩ lo se re m C' op (fs ++ [f])) (.bool true) (ckK c ⟨o,x,y,n,a :: b :: r⟩ lo se re m C' op (fs ++ [f])))
    (hlb : ∀ C',SpecD S 101 [.ptr 0 0,.int .u32 x] (ck c.l lo se re m C' op (fs ++ [f])) (.tup [.own .vt 6 0 q.length .whole,.int .i64 0]) (ck c.l lo se re m C' op (fs ++ [f]) ++ [.row .vt q]))
    : Spec S 77 [.ptr 6 0] (ckK c ⟨o,x,y,n,(a :: b :: r)⟩ lo se re m C op (fs ++ [f])) (okK c ⟨o,x,y,n,(a :: b :: r)⟩ lo se re (fs ++ [f]) (.int .i64 131) (op.take m)) := by
 have hC := G.hC;have hm := G.hm;refine okK_of rfl (fun _ _ => rfl) ?_;have hd : decide (((a :: b :: r).length : Int) < 2) = false := decide_eq_false (by simp; omega);have eo : (o == 64281) = false := ho;have hv1 := c_Val c.l G.hl G.hg b a;rw [hv1e] at hv1;have hv2 := c_Val c.l G.hl G.hg b (lastF q);rw [hv2e] at hv2;have hdf := c_Diff a b;have e0 : ((q.length : Int) == 0) = false := by simpa using hq
 have hw : IntKind.i64.wrap ((q.length : Int) - 1) = ((q.length - 1 : Nat) : Int) := by rw [wrap_i64 (by omega) (by omega)]; omega
 have hz : q.getD (q.length - 1) (S.zero .vt) = lastF q := rfl;generalize lastF q = z at *;have e5 : (z.num == 5) = true := by simpa using h5
 generalize fs ++ [f] = fr at *;clear G;have hll := hlb C;have hkaa := hka C;have hkbb := hkb C;cases C;all_goals try exact absurd rfl hC
 all_goals
  refine specE ok sh77 rfl ?_;(conv=>whnf);refine cQ [0,1,2,3,4,5] hll ?_;(conv=>whnf);simp only [e0];(conv=>whnf);rw [hw];refine ⟨rfl,by omega,by omega,?_⟩;rw [show 0 + Int.toNat ((q.length - 1 : Nat) : Int) = q.length - 1 by rw [Nat.zero_add,Int.toNat_natCast]];(conv=>whnf);refine ⟨rfl,by omega,by decide,?_⟩;rw [hz];(conv=>whnf);simp only [bne,e5];(conv=>whnf);refine ⟨rfl,by decide,by show (0 : Int) < ((a :: b :: r).length : Nat); simp <;> omega,?_⟩
  (conv=>whnf);refine ⟨by show 0 < (a :: b :: r).length; simp,by decide,?_⟩;(conv=>whnf);refine ⟨rfl,by decide,by show (1 : Int) < ((a :: b :: r).length : Nat); simp <;> omega,?_⟩
  (conv=>whnf);refine ⟨by show 1 < (a :: b :: r).length; simp,by decide,?_⟩;(conv=>whnf);refine ⟨?_,?_⟩
  all_goals
   (conv=>whnf);try (refine ⟨by trivial,?_⟩;conv=>whnf)
   try (refine ⟨by trivial,?_⟩;conv=>whnf)
   try (refine ⟨by trivial,?_⟩;conv=>whnf)
   refine cQ [0,1,2,3,4,5,6] hkaa ?_;(conv=>whnf);refine cQ [0,1,2,3,4,5,6] hkbb ?_;(conv=>whnf);refine ⟨?_,?_⟩
   · (conv=>whnf);refine cQ [] hdf ?_;(conv=>whnf);try (refine ⟨by trivial,?_⟩;conv=>whnf)
     refine ⟨?_,?_⟩
     all_goals
      (conv=>whnf);try (refine ⟨by trivial,?_⟩;conv=>whnf)
      try (refine ⟨by trivial,?_⟩;conv=>whnf)
      try (refine ⟨by trivial,?_⟩;conv=>whnf)
      try (refine ⟨by trivial,?_⟩;conv=>whnf)
      simp only [eo];(conv=>whnf);rw [hw];refine ⟨rfl,by omega,by omega,by omega,rfl,?_⟩;rw [show (Int.toNat ((q.length - 1 : Nat) : Int) - Int.toNat 0) = q.length - 1 by rw [Int.toNat_natCast]; rfl,show (0 + Int.toNat 0) = 0 from rfl];(conv=>whnf);rw [hw];refine ⟨rfl,by omega,by omega,?_⟩;rw [show 0 + Int.toNat ((q.length - 1 : Nat) : Int) = q.length - 1 by rw [Nat.zero_add,Int.toNat_natCast]];(conv=>whnf);refine ⟨rfl,by omega,by decide,?_⟩;rw [hz];(conv=>whnf);try (refine ⟨by trivial,?_⟩;conv=>whnf)
      try (refine ⟨by trivial,?_⟩;conv=>whnf)
      refine cQ [] hv1 ?_;(conv=>whnf);refine cQ [] hv2 ?_;(conv=>whnf);exact eQ [0,1,2,3,4,5,6] ⟨rfl,m,_,op,hm,hC,rfl,.inl rfl⟩
   · refine ⟨?_,?_⟩
     all_goals
      (conv=>whnf);try (refine ⟨by trivial,?_⟩;conv=>whnf)
      refine ⟨?_,?_⟩
      · (conv=>whnf);refine cQ [] hdf ?_;(conv=>whnf);try (refine ⟨by trivial,?_⟩;conv=>whnf)
        try (refine ⟨by trivial,?_⟩;conv=>whnf)
        try (refine ⟨by trivial,?_⟩;conv=>whnf)
        try (refine ⟨by trivial,?_⟩;conv=>whnf)
        simp only [eo];(conv=>whnf);rw [hw];refine ⟨rfl,by omega,by omega,by omega,rfl,?_⟩;rw [show (Int.toNat ((q.length - 1 : Nat) : Int) - Int.toNat 0) = q.length - 1 by rw [Int.toNat_natCast]; rfl,show (0 + Int.toNat 0) = 0 from rfl];(conv=>whnf);rw [hw];refine ⟨rfl,by omega,by omega,?_⟩;rw [show 0 + Int.toNat ((q.length - 1 : Nat) : Int) = q.length - 1 by rw [Nat.zero_add,Int.toNat_natCast]];(conv=>whnf);refine ⟨rfl,by omega,by decide,?_⟩;rw [hz];(conv=>whnf);try (refine ⟨by trivial,?_⟩;conv=>whnf)
        try (refine ⟨by trivial,?_⟩;conv=>whnf)
        refine cQ [] hv1 ?_;(conv=>whnf);refine cQ [] hv2 ?_;(conv=>whnf);exact eQ [0,1,2,3,4,5,6] ⟨rfl,m,_,op,hm,hC,rfl,.inl rfl⟩
      · (conv=>whnf);try (refine ⟨by trivial,?_⟩;conv=>whnf)
        refine cQ [] hdf ?_;(conv=>whnf);try (refine ⟨by trivial,?_⟩;conv=>whnf)
        try (refine ⟨by trivial,?_⟩;conv=>whnf)
        try (refine ⟨by trivial,?_⟩;conv=>whnf)
        try (refine ⟨by trivial,?_⟩;conv=>whnf)
        simp only [eo];(conv=>whnf);rw [hw];refine ⟨rfl,by omega,by omega,by omega,rfl,?_⟩;rw [show (Int.toNat ((q.length - 1 : Nat) : Int) - Int.toNat 0) = q.length - 1 by rw [Int.toNat_natCast]; rfl,show (0 + Int.toNat 0) = 0 from rfl];(conv=>whnf);rw [hw];refine ⟨rfl,by omega,by omega,?_⟩;rw [show 0 + Int.toNat ((q.length - 1 : Nat) : Int) = q.length - 1 by rw [Nat.zero_add,Int.toNat_natCast]];(conv=>whnf);refine ⟨rfl,by omega,by decide,?_⟩;rw [hz];(conv=>whnf);try (refine ⟨by trivial,?_⟩;conv=>whnf)
        try (refine ⟨by trivial,?_⟩;conv=>whnf)
        refine cQ [] hv1 ?_;(conv=>whnf);refine cQ [] hv2 ?_;(conv=>whnf);exact eQ [0,1,2,3,4,5,6] ⟨rfl,m,_,op,hm,hC,rfl,.inl rfl⟩
theorem c_br10 (G : Gd c.l fs f h m C op) (o x y n : Int) (a b : El_vt) (r : List El_vt) (q : List El_vt) (hql : q.length ≤ 4000000) (hq : ¬ q.length = 0) (h5 : (lastF q).num = 5) (ho : (o == 64281) = true) (hv1e : valB c.l b a = true) (hv2e : valB c.l (diffF a b) (lastF q) = false)
    (hka : ∀ C',SpecD S 115 [.ptr 6 0,.int .i64 a.heap] (ckK c ⟨o,x,y,n,a :: b :: r⟩ lo se re m C' op (fs ++ [f])) (.bool true) (ckK c ⟨o,x,y,n,a :: b :: r⟩ lo se re m C' op (fs ++ [f])))
    (hkb : ∀ C',SpecD S 115 [.ptr 6 0,.int .i64 b.heap] (ckK c ⟨o,x,y,n,a :: b :: r⟩ lo se re m C' op (fs ++ [f])) (.bool true) (ckK c ⟨o,x,y,n,a :: b :: r⟩ lo se re m C' op (fs ++ [f])))
    (hlb : ∀ C',SpecD S 101 [.ptr 0 0,.int .u32 x] (ck c.l lo se re m C' op (fs ++ [f])) (.tup [.own .vt 6 0 q.length .whole,.int .i64 0]) (ck c.l lo se re m C' op (fs ++ [f]) ++ [.row .vt q]))
    : Spec S 77 [.ptr 6 0] (ckK c ⟨o,x,y,n,(a :: b :: r)⟩ lo se re m C op (fs ++ [f])) (okK c ⟨o,x,y,n,(a :: b :: r)⟩ lo se re (fs ++ [f]) (.int .i64 131) (op.take m)) := by
 have hC := G.hC;have hm := G.hm;refine okK_of rfl (fun _ _ => rfl) ?_;have hd : decide (((a :: b :: r).length : Int) < 2) = false := decide_eq_false (by simp; omega);have eo : (o == 64281) = true := ho;have hv1 := c_Val c.l G.hl G.hg b a;rw [hv1e] at hv1;have hv2 := c_Val c.l G.hl G.hg (diffF a b) (lastF q);rw [hv2e] at hv2;have hdf := c_Diff a b;have e0 : ((q.length : Int) == 0) = false := by simpa using hq
 have hw : IntKind.i64.wrap ((q.length : Int) - 1) = ((q.length - 1 : Nat) : Int) := by rw [wrap_i64 (by omega) (by omega)]; omega
 have hz : q.getD (q.length - 1) (S.zero .vt) = lastF q := rfl;generalize lastF q = z at *;have e5 : (z.num == 5) = true := by simpa using h5
 generalize fs ++ [f] = fr at *;clear G;have hll := hlb C;have hkaa := hka C;have hkbb := hkb C;cases C;all_goals try exact absurd rfl hC
 all_goals
  refine specE ok sh77 rfl ?_;(conv=>whnf);refine cQ [0,1,2,3,4,5] hll ?_;(conv=>whnf);simp only [e0];(conv=>whnf);rw [hw];refine ⟨rfl,by omega,by omega,?_⟩;rw [show 0 + Int.toNat ((q.length - 1 : Nat) : Int) = q.length - 1 by rw [Nat.zero_add,Int.toNat_natCast]];(conv=>whnf);refine ⟨rfl,by omega,by decide,?_⟩;rw [hz];(conv=>whnf);simp only [bne,e5];(conv=>whnf);refine ⟨rfl,by decide,by show (0 : Int) < ((a :: b :: r).length : Nat); simp <;> omega,?_⟩
  (conv=>whnf);refine ⟨by show 0 < (a :: b :: r).length; simp,by decide,?_⟩;(conv=>whnf);refine ⟨rfl,by decide,by show (1 : Int) < ((a :: b :: r).length : Nat); simp <;> omega,?_⟩
  (conv=>whnf);refine ⟨by show 1 < (a :: b :: r).length; simp,by decide,?_⟩;(conv=>whnf);refine ⟨?_,?_⟩
  all_goals
   (conv=>whnf);try (refine ⟨by trivial,?_⟩;conv=>whnf)
   try (refine ⟨by trivial,?_⟩;conv=>whnf)
   try (refine ⟨by trivial,?_⟩;conv=>whnf)
   refine cQ [0,1,2,3,4,5,6] hkaa ?_;(conv=>whnf);refine cQ [0,1,2,3,4,5,6] hkbb ?_;(conv=>whnf);refine ⟨?_,?_⟩
   · (conv=>whnf);refine cQ [] hdf ?_;(conv=>whnf);try (refine ⟨by trivial,?_⟩;conv=>whnf)
     refine ⟨?_,?_⟩
     all_goals
      (conv=>whnf);try (refine ⟨by trivial,?_⟩;conv=>whnf)
      try (refine ⟨by trivial,?_⟩;conv=>whnf)
      try (refine ⟨by trivial,?_⟩;conv=>whnf)
      try (refine ⟨by trivial,?_⟩;conv=>whnf)
      simp only [eo];(conv=>whnf);rw [hw];refine ⟨rfl,by omega,by omega,by omega,rfl,?_⟩;rw [show (Int.toNat ((q.length - 1 : Nat) : Int) - Int.toNat 0) = q.length - 1 by rw [Int.toNat_natCast]; rfl,show (0 + Int.toNat 0) = 0 from rfl];(conv=>whnf);rw [hw];refine ⟨rfl,by omega,by omega,?_⟩;rw [show 0 + Int.toNat ((q.length - 1 : Nat) : Int) = q.length - 1 by rw [Nat.zero_add,Int.toNat_natCast]];(conv=>whnf);refine ⟨rfl,by omega,by decide,?_⟩;rw [hz];(conv=>whnf);try (refine ⟨by trivial,?_⟩;conv=>whnf)
      try (refine ⟨by trivial,?_⟩;conv=>whnf)
      refine cQ [] hv1 ?_;(conv=>whnf);refine cQ [] hv2 ?_;(conv=>whnf);exact eQ [0,1,2,3,4,5,6] ⟨rfl,m,_,op,hm,hC,rfl,.inl rfl⟩
   · refine ⟨?_,?_⟩
     all_goals
      (conv=>whnf);try (refine ⟨by trivial,?_⟩;conv=>whnf)
      refine ⟨?_,?_⟩
      · (conv=>whnf);refine cQ [] hdf ?_;(conv=>whnf);try (refine ⟨by trivial,?_⟩;conv=>whnf)
        try (refine ⟨by trivial,?_⟩;conv=>whnf)
        try (refine ⟨by trivial,?_⟩;conv=>whnf)
        try (refine ⟨by trivial,?_⟩;conv=>whnf)
        simp only [eo];(conv=>whnf);rw [hw];refine ⟨rfl,by omega,by omega,by omega,rfl,?_⟩;rw [show (Int.toNat ((q.length - 1 : Nat) : Int) - Int.toNat 0) = q.length - 1 by rw [Int.toNat_natCast]; rfl,show (0 + Int.toNat 0) = 0 from rfl];(conv=>whnf);rw [hw];refine ⟨rfl,by omega,by omega,?_⟩;rw [show 0 + Int.toNat ((q.length - 1 : Nat) : Int) = q.length - 1 by rw [Nat.zero_add,Int.toNat_natCast]];(conv=>whnf);refine ⟨rfl,by omega,by decide,?_⟩;rw [hz];(conv=>whnf);try (refine ⟨by trivial,?_⟩;conv=>whnf)
        try (refine ⟨by trivial,?_⟩;conv=>whnf)
        refine cQ [] hv1 ?_;(conv=>whnf);refine cQ [] hv2 ?_;(conv=>whnf);exact eQ [0,1,2,3,4,5,6] ⟨rfl,m,_,op,hm,hC,rfl,.inl rfl⟩
      · (conv=>whnf);try (refine ⟨by trivial,?_⟩;conv=>whnf)
        refine cQ [] hdf ?_;(conv=>whnf);try (refine ⟨by trivial,?_⟩;conv=>whnf)
        try (refine ⟨by trivial,?_⟩;conv=>whnf)
        try (refine ⟨by trivial,?_⟩;conv=>whnf)
        try (refine ⟨by trivial,?_⟩;conv=>whnf)
        simp only [eo];(conv=>whnf);rw [hw];refine ⟨rfl,by omega,by omega,by omega,rfl,?_⟩;rw [show (Int.toNat ((q.length - 1 : Nat) : Int) - Int.toNat 0) = q.length - 1 by rw [Int.toNat_natCast]; rfl,show (0 + Int.toNat 0) = 0 from rfl];(conv=>whnf);rw [hw];refine ⟨rfl,by omega,by omega,?_⟩;rw [show 0 + Int.toNat ((q.length - 1 : Nat) : Int) = q.length - 1 by rw [Nat.zero_add,Int.toNat_natCast]];(conv=>whnf);refine ⟨rfl,by omega,by decide,?_⟩;rw [hz];(conv=>whnf);try (refine ⟨by trivial,?_⟩;conv=>whnf)
        try (refine ⟨by trivial,?_⟩;conv=>whnf)
        refine cQ [] hv1 ?_;(conv=>whnf);refine cQ [] hv2 ?_;(conv=>whnf);exact eQ [0,1,2,3,4,5,6] ⟨rfl,m,_,op,hm,hC,rfl,.inl rfl⟩
theorem c_br11 (G : Gd c.l fs f h m C op) (o x y n : Int) (a b : El_vt) (r : List El_vt) (q : List El_vt) (hql : q.length ≤ 4000000) (hq : ¬ q.length = 0) (h5 : (lastF q).num = 5) (ho : (o == 64281) = false) (hv1e : valB c.l b a = true) (hv2e : valB c.l b (lastF q) = true)
    (hka : ∀ C',SpecD S 115 [.ptr 6 0,.int .i64 a.heap] (ckK c ⟨o,x,y,n,a :: b :: r⟩ lo se re m C' op (fs ++ [f])) (.bool true) (ckK c ⟨o,x,y,n,a :: b :: r⟩ lo se re m C' op (fs ++ [f])))
    (hkb : ∀ C',SpecD S 115 [.ptr 6 0,.int .i64 b.heap] (ckK c ⟨o,x,y,n,a :: b :: r⟩ lo se re m C' op (fs ++ [f])) (.bool true) (ckK c ⟨o,x,y,n,a :: b :: r⟩ lo se re m C' op (fs ++ [f])))
    (hlb : ∀ C',SpecD S 101 [.ptr 0 0,.int .u32 x] (ck c.l lo se re m C' op (fs ++ [f])) (.tup [.own .vt 6 0 q.length .whole,.int .i64 0]) (ck c.l lo se re m C' op (fs ++ [f]) ++ [.row .vt q]))
    : Spec S 77 [.ptr 6 0] (ckK c ⟨o,x,y,n,(a :: b :: r)⟩ lo se re m C op (fs ++ [f])) (okK c ⟨o,x,y,n,(a :: b :: r)⟩ lo se re (fs ++ [f]) (.int .i64 (swapL c.l h f.dead (op.take m) (q.take (q.length - 1) ++ [a]) (q.take (q.length - 1) ++ [(diffF a b)])).1) (swapL c.l h f.dead (op.take m) (q.take (q.length - 1) ++ [a]) (q.take (q.length - 1) ++ [(diffF a b)])).2) := by
 have hC := G.hC;have hm := G.hm;have hp := c_SwapOO (lo := lo) (se := se) (re := re) G (q.take (q.length - 1) ++ [a]) (q.take (q.length - 1) ++ [(diffF a b)]) (q.length - 1 + 1) (q.length - 1 + 1) .whole .whole (by simp) (by simp) (by omega) (by omega);have etk : ∀ w : El_vt,(q.take (q.length - 1) ++ [w]).take (q.length - 1 + 1) = q.take (q.length - 1) ++ [w] := fun w => List.take_of_length_le (by simp);rw [etk,etk] at hp;generalize swapL c.l h f.dead (op.take m) (q.take (q.length - 1) ++ [a]) (q.take (q.length - 1) ++ [(diffF a b)]) = P at *;obtain ⟨e,o'⟩ := P;simp only at hp ⊢;have hd : decide (((a :: b :: r).length : Int) < 2) = false := decide_eq_false (by simp; omega);have eo : (o == 64281) = false := ho;have hv1 := c_Val c.l G.hl G.hg b a;rw [hv1e] at hv1;have hv2 := c_Val c.l G.hl G.hg b (lastF q);rw [hv2e] at hv2;have hdf := c_Diff a b;have e0 : ((q.length : Int) == 0) = false := by simpa using hq
 have hw : IntKind.i64.wrap ((q.length : Int) - 1) = ((q.length - 1 : Nat) : Int) := by rw [wrap_i64 (by omega) (by omega)]; omega
 have hz : q.getD (q.length - 1) (S.zero .vt) = lastF q := rfl;generalize lastF q = z at *;have e5 : (z.num == 5) = true := by simpa using h5
 generalize fs ++ [f] = fr at *;clear G;have hll := hlb C;have hkaa := hka C;have hkbb := hkb C;cases C;all_goals try exact absurd rfl hC
 all_goals
  refine specE ok sh77 rfl ?_;(conv=>whnf);refine cQ [0,1,2,3,4,5] hll ?_;(conv=>whnf);simp only [e0];(conv=>whnf);rw [hw];refine ⟨rfl,by omega,by omega,?_⟩;rw [show 0 + Int.toNat ((q.length - 1 : Nat) : Int) = q.length - 1 by rw [Nat.zero_add,Int.toNat_natCast]];(conv=>whnf);refine ⟨rfl,by omega,by decide,?_⟩;rw [hz];(conv=>whnf);simp only [bne,e5];(conv=>whnf);refine ⟨rfl,by decide,by show (0 : Int) < ((a :: b :: r).length : Nat); simp <;> omega,?_⟩
  (conv=>whnf);refine ⟨by show 0 < (a :: b :: r).length; simp,by decide,?_⟩;(conv=>whnf);refine ⟨rfl,by decide,by show (1 : Int) < ((a :: b :: r).length : Nat); simp <;> omega,?_⟩
  (conv=>whnf);refine ⟨by show 1 < (a :: b :: r).length; simp,by decide,?_⟩;(conv=>whnf);refine ⟨?_,?_⟩
  all_goals
   (conv=>whnf);try (refine ⟨by trivial,?_⟩;conv=>whnf)
   try (refine ⟨by trivial,?_⟩;conv=>whnf)
   try (refine ⟨by trivial,?_⟩;conv=>whnf)
   refine cQ [0,1,2,3,4,5,6] hkaa ?_;(conv=>whnf);refine cQ [0,1,2,3,4,5,6] hkbb ?_;(conv=>whnf);refine ⟨?_,?_⟩
   · (conv=>whnf);refine cQ [] hdf ?_;(conv=>whnf);try (refine ⟨by trivial,?_⟩;conv=>whnf)
     refine ⟨?_,?_⟩
     all_goals
      (conv=>whnf);try (refine ⟨by trivial,?_⟩;conv=>whnf)
      try (refine ⟨by trivial,?_⟩;conv=>whnf)
      try (refine ⟨by trivial,?_⟩;conv=>whnf)
      try (refine ⟨by trivial,?_⟩;conv=>whnf)
      simp only [eo];(conv=>whnf);rw [hw];refine ⟨rfl,by omega,by omega,by omega,rfl,?_⟩;rw [show (Int.toNat ((q.length - 1 : Nat) : Int) - Int.toNat 0) = q.length - 1 by rw [Int.toNat_natCast]; rfl,show (0 + Int.toNat 0) = 0 from rfl];(conv=>whnf);rw [hw];refine ⟨rfl,by omega,by omega,?_⟩;rw [show 0 + Int.toNat ((q.length - 1 : Nat) : Int) = q.length - 1 by rw [Nat.zero_add,Int.toNat_natCast]];(conv=>whnf);refine ⟨rfl,by omega,by decide,?_⟩;rw [hz];(conv=>whnf);try (refine ⟨by trivial,?_⟩;conv=>whnf)
      try (refine ⟨by trivial,?_⟩;conv=>whnf)
      refine cQ [] hv1 ?_;(conv=>whnf);refine cQ [] hv2 ?_;(conv=>whnf);refine ⟨?_,?_⟩
      · (conv=>whnf);refine tQ ?_;(conv=>whnf);refine ⟨?_,?_⟩
        · (conv=>whnf);refine ⟨rfl,by simp,?_⟩;(conv=>whnf);refine ⟨rfl,by show 0 + (q.length - 1) ≤ q.length; omega,fits_big (by show q.length - 1 + 1 ≤ _; omega) (by decide),by simp,?_⟩;(conv=>whnf);refine tQ ?_;(conv=>whnf);refine tQ ?_;(conv=>whnf);refine ⟨rfl,by simp,?_⟩;(conv=>whnf);refine ⟨rfl,by show 0 + (q.length - 1) ≤ q.length; omega,fits_big (by show q.length - 1 + 1 ≤ _; omega) (by decide),by simp,?_⟩;(conv=>whnf);refine tQ ?_;(conv=>whnf);refine rQ [0,1,2,3,4,5,14,16] hp ?_;rintro r H' ⟨rfl,m2,C2,op2,hm2',hC2,ho2,rfl⟩;cases C2;all_goals try exact absurd rfl hC2
          all_goals
           (conv=>whnf);exact eQ [0,1,2,3,4,5,6,17] ⟨rfl,m2,_,op2,hm2',hC2,ho2,rfl⟩
        · (conv=>whnf);refine tQ ?_;(conv=>whnf);refine ⟨rfl,by simp,?_⟩;(conv=>whnf);refine ⟨rfl,by show 0 + (q.length - 1) ≤ q.length; omega,fits_big (by show q.length - 1 + 1 ≤ _; omega) (by decide),by simp,?_⟩;(conv=>whnf);refine tQ ?_;(conv=>whnf);refine ⟨rfl,by simp,?_⟩;(conv=>whnf);refine ⟨rfl,by show 0 + (q.length - 1) ≤ q.length; omega,fits_big (by show q.length - 1 + 1 ≤ _; omega) (by decide),by simp,?_⟩;(conv=>whnf);refine tQ ?_;(conv=>whnf);refine rQ [0,1,2,3,4,5,15,16] hp ?_;rintro r H' ⟨rfl,m2,C2,op2,hm2',hC2,ho2,rfl⟩;cases C2;all_goals try exact absurd rfl hC2
          all_goals
           (conv=>whnf);exact eQ [0,1,2,3,4,5,6,17] ⟨rfl,m2,_,op2,hm2',hC2,ho2,rfl⟩
      · (conv=>whnf);refine tQ ?_;(conv=>whnf);refine tQ ?_;(conv=>whnf);refine ⟨rfl,by simp,?_⟩;(conv=>whnf);refine ⟨rfl,by show 0 + (q.length - 1) ≤ q.length; omega,fits_big (by show q.length - 1 + 1 ≤ _; omega) (by decide),by simp,?_⟩;(conv=>whnf);refine tQ ?_;(conv=>whnf);refine ⟨rfl,by simp,?_⟩;(conv=>whnf);refine ⟨rfl,by show 0 + (q.length - 1) ≤ q.length; omega,fits_big (by show q.length - 1 + 1 ≤ _; omega) (by decide),by simp,?_⟩;(conv=>whnf);refine tQ ?_;(conv=>whnf);refine rQ [0,1,2,3,4,5,15,16] hp ?_;rintro r H' ⟨rfl,m2,C2,op2,hm2',hC2,ho2,rfl⟩;cases C2;all_goals try exact absurd rfl hC2
        all_goals
         (conv=>whnf);exact eQ [0,1,2,3,4,5,6,17] ⟨rfl,m2,_,op2,hm2',hC2,ho2,rfl⟩
   · refine ⟨?_,?_⟩
     all_goals
      (conv=>whnf);try (refine ⟨by trivial,?_⟩;conv=>whnf)
      refine ⟨?_,?_⟩
      · (conv=>whnf);refine cQ [] hdf ?_;(conv=>whnf);try (refine ⟨by trivial,?_⟩;conv=>whnf)
        try (refine ⟨by trivial,?_⟩;conv=>whnf)
        try (refine ⟨by trivial,?_⟩;conv=>whnf)
        try (refine ⟨by trivial,?_⟩;conv=>whnf)
        simp only [eo];(conv=>whnf);rw [hw];refine ⟨rfl,by omega,by omega,by omega,rfl,?_⟩;rw [show (Int.toNat ((q.length - 1 : Nat) : Int) - Int.toNat 0) = q.length - 1 by rw [Int.toNat_natCast]; rfl,show (0 + Int.toNat 0) = 0 from rfl];(conv=>whnf);rw [hw];refine ⟨rfl,by omega,by omega,?_⟩;rw [show 0 + Int.toNat ((q.length - 1 : Nat) : Int) = q.length - 1 by rw [Nat.zero_add,Int.toNat_natCast]];(conv=>whnf);refine ⟨rfl,by omega,by decide,?_⟩;rw [hz];(conv=>whnf);try (refine ⟨by trivial,?_⟩;conv=>whnf)
        try (refine ⟨by trivial,?_⟩;conv=>whnf)
        refine cQ [] hv1 ?_;(conv=>whnf);refine cQ [] hv2 ?_;(conv=>whnf);refine ⟨?_,?_⟩
        · (conv=>whnf);refine tQ ?_;(conv=>whnf);refine ⟨?_,?_⟩
          · (conv=>whnf);refine ⟨rfl,by simp,?_⟩;(conv=>whnf);refine ⟨rfl,by show 0 + (q.length - 1) ≤ q.length; omega,fits_big (by show q.length - 1 + 1 ≤ _; omega) (by decide),by simp,?_⟩;(conv=>whnf);refine tQ ?_;(conv=>whnf);refine tQ ?_;(conv=>whnf);refine ⟨rfl,by simp,?_⟩;(conv=>whnf);refine ⟨rfl,by show 0 + (q.length - 1) ≤ q.length; omega,fits_big (by show q.length - 1 + 1 ≤ _; omega) (by decide),by simp,?_⟩;(conv=>whnf);refine tQ ?_;(conv=>whnf);refine rQ [0,1,2,3,4,5,14,16] hp ?_;rintro r H' ⟨rfl,m2,C2,op2,hm2',hC2,ho2,rfl⟩;cases C2;all_goals try exact absurd rfl hC2
            all_goals
             (conv=>whnf);exact eQ [0,1,2,3,4,5,6,17] ⟨rfl,m2,_,op2,hm2',hC2,ho2,rfl⟩
          · (conv=>whnf);refine tQ ?_;(conv=>whnf);refine ⟨rfl,by simp,?_⟩;(conv=>whnf);refine ⟨rfl,by show 0 + (q.length - 1) ≤ q.length; omega,fits_big (by show q.length - 1 + 1 ≤ _; omega) (by decide),by simp,?_⟩;(conv=>whnf);refine tQ ?_;(conv=>whnf);refine ⟨rfl,by simp,?_⟩;(conv=>whnf);refine ⟨rfl,by show 0 + (q.length - 1) ≤ q.length; omega,fits_big (by show q.length - 1 + 1 ≤ _; omega) (by decide),by simp,?_⟩;(conv=>whnf);refine tQ ?_;(conv=>whnf);refine rQ [0,1,2,3,4,5,15,16] hp ?_;rintro r H' ⟨rfl,m2,C2,op2,hm2',hC2,ho2,rfl⟩;cases C2;all_goals try exact absurd rfl hC2
            all_goals
             (conv=>whnf);exact eQ [0,1,2,3,4,5,6,17] ⟨rfl,m2,_,op2,hm2',hC2,ho2,rfl⟩
        · (conv=>whnf);refine tQ ?_;(conv=>whnf);refine tQ ?_;(conv=>whnf);refine ⟨rfl,by simp,?_⟩;(conv=>whnf);refine ⟨rfl,by show 0 + (q.length - 1) ≤ q.length; omega,fits_big (by show q.length - 1 + 1 ≤ _; omega) (by decide),by simp,?_⟩;(conv=>whnf);refine tQ ?_;(conv=>whnf);refine ⟨rfl,by simp,?_⟩;(conv=>whnf);refine ⟨rfl,by show 0 + (q.length - 1) ≤ q.length; omega,fits_big (by show q.length - 1 + 1 ≤ _; omega) (by decide),by simp,?_⟩;(conv=>whnf);refine tQ ?_;(conv=>whnf);refine rQ [0,1,2,3,4,5,15,16] hp ?_;rintro r H' ⟨rfl,m2,C2,op2,hm2',hC2,ho2,rfl⟩;cases C2;all_goals try exact absurd rfl hC2
          all_goals
           (conv=>whnf);exact eQ [0,1,2,3,4,5,6,17] ⟨rfl,m2,_,op2,hm2',hC2,ho2,rfl⟩
      · (conv=>whnf);try (refine ⟨by trivial,?_⟩;conv=>whnf)
        refine cQ [] hdf ?_;(conv=>whnf);try (refine ⟨by trivial,?_⟩;conv=>whnf)
        try (refine ⟨by trivial,?_⟩;conv=>whnf)
        try (refine ⟨by trivial,?_⟩;conv=>whnf)
        try (refine ⟨by trivial,?_⟩;conv=>whnf)
        simp only [eo];(conv=>whnf);rw [hw];refine ⟨rfl,by omega,by omega,by omega,rfl,?_⟩;rw [show (Int.toNat ((q.length - 1 : Nat) : Int) - Int.toNat 0) = q.length - 1 by rw [Int.toNat_natCast]; rfl,show (0 + Int.toNat 0) = 0 from rfl];(conv=>whnf);rw [hw];refine ⟨rfl,by omega,by omega,?_⟩;rw [show 0 + Int.toNat ((q.length - 1 : Nat) : Int) = q.length - 1 by rw [Nat.zero_add,Int.toNat_natCast]];(conv=>whnf);refine ⟨rfl,by omega,by decide,?_⟩;rw [hz];(conv=>whnf);try (refine ⟨by trivial,?_⟩;conv=>whnf)
        try (refine ⟨by trivial,?_⟩;conv=>whnf)
        refine cQ [] hv1 ?_;(conv=>whnf);refine cQ [] hv2 ?_;(conv=>whnf);refine ⟨?_,?_⟩
        · (conv=>whnf);refine tQ ?_;(conv=>whnf);refine ⟨?_,?_⟩
          · (conv=>whnf);refine ⟨rfl,by simp,?_⟩;(conv=>whnf);refine ⟨rfl,by show 0 + (q.length - 1) ≤ q.length; omega,fits_big (by show q.length - 1 + 1 ≤ _; omega) (by decide),by simp,?_⟩;(conv=>whnf);refine tQ ?_;(conv=>whnf);refine tQ ?_;(conv=>whnf);refine ⟨rfl,by simp,?_⟩;(conv=>whnf);refine ⟨rfl,by show 0 + (q.length - 1) ≤ q.length; omega,fits_big (by show q.length - 1 + 1 ≤ _; omega) (by decide),by simp,?_⟩;(conv=>whnf);refine tQ ?_;(conv=>whnf);refine rQ [0,1,2,3,4,5,14,16] hp ?_;rintro r H' ⟨rfl,m2,C2,op2,hm2',hC2,ho2,rfl⟩;cases C2;all_goals try exact absurd rfl hC2
            all_goals
             (conv=>whnf);exact eQ [0,1,2,3,4,5,6,17] ⟨rfl,m2,_,op2,hm2',hC2,ho2,rfl⟩
          · (conv=>whnf);refine tQ ?_;(conv=>whnf);refine ⟨rfl,by simp,?_⟩;(conv=>whnf);refine ⟨rfl,by show 0 + (q.length - 1) ≤ q.length; omega,fits_big (by show q.length - 1 + 1 ≤ _; omega) (by decide),by simp,?_⟩;(conv=>whnf);refine tQ ?_;(conv=>whnf);refine ⟨rfl,by simp,?_⟩;(conv=>whnf);refine ⟨rfl,by show 0 + (q.length - 1) ≤ q.length; omega,fits_big (by show q.length - 1 + 1 ≤ _; omega) (by decide),by simp,?_⟩;(conv=>whnf);refine tQ ?_;(conv=>whnf);refine rQ [0,1,2,3,4,5,15,16] hp ?_;rintro r H' ⟨rfl,m2,C2,op2,hm2',hC2,ho2,rfl⟩;cases C2;all_goals try exact absurd rfl hC2
            all_goals
             (conv=>whnf);exact eQ [0,1,2,3,4,5,6,17] ⟨rfl,m2,_,op2,hm2',hC2,ho2,rfl⟩
        · (conv=>whnf);refine tQ ?_;(conv=>whnf);refine tQ ?_;(conv=>whnf);refine ⟨rfl,by simp,?_⟩;(conv=>whnf);refine ⟨rfl,by show 0 + (q.length - 1) ≤ q.length; omega,fits_big (by show q.length - 1 + 1 ≤ _; omega) (by decide),by simp,?_⟩;(conv=>whnf);refine tQ ?_;(conv=>whnf);refine ⟨rfl,by simp,?_⟩;(conv=>whnf);refine ⟨rfl,by show 0 + (q.length - 1) ≤ q.length; omega,fits_big (by show q.length - 1 + 1 ≤ _; omega) (by decide),by simp,?_⟩;(conv=>whnf);refine tQ ?_;(conv=>whnf);refine rQ [0,1,2,3,4,5,15,16] hp ?_;rintro r H' ⟨rfl,m2,C2,op2,hm2',hC2,ho2,rfl⟩;cases C2;all_goals try exact absurd rfl hC2
          all_goals
           (conv=>whnf);exact eQ [0,1,2,3,4,5,6,17] ⟨rfl,m2,_,op2,hm2',hC2,ho2,rfl⟩
theorem c_br12 (G : Gd c.l fs f h m C op) (o x y n : Int) (a b : El_vt) (r : List El_vt) (q : List El_vt) (hql : q.length ≤ 4000000) (hq : ¬ q.length = 0) (h5 : (lastF q).num = 5) (ho : (o == 64281) = true) (hv1e : valB c.l b a = true) (hv2e : valB c.l (diffF a b) (lastF q) = true)
    (hka : ∀ C',SpecD S 115 [.ptr 6 0,.int .i64 a.heap] (ckK c ⟨o,x,y,n,a :: b :: r⟩ lo se re m C' op (fs ++ [f])) (.bool true) (ckK c ⟨o,x,y,n,a :: b :: r⟩ lo se re m C' op (fs ++ [f])))
    (hkb : ∀ C',SpecD S 115 [.ptr 6 0,.int .i64 b.heap] (ckK c ⟨o,x,y,n,a :: b :: r⟩ lo se re m C' op (fs ++ [f])) (.bool true) (ckK c ⟨o,x,y,n,a :: b :: r⟩ lo se re m C' op (fs ++ [f])))
    (hlb : ∀ C',SpecD S 101 [.ptr 0 0,.int .u32 x] (ck c.l lo se re m C' op (fs ++ [f])) (.tup [.own .vt 6 0 q.length .whole,.int .i64 0]) (ck c.l lo se re m C' op (fs ++ [f]) ++ [.row .vt q]))
    : Spec S 77 [.ptr 6 0] (ckK c ⟨o,x,y,n,(a :: b :: r)⟩ lo se re m C op (fs ++ [f])) (okK c ⟨o,x,y,n,(a :: b :: r)⟩ lo se re (fs ++ [f]) (.int .i64 (swapL c.l h f.dead (op.take m) (q.take (q.length - 1) ++ [a]) (q.take (q.length - 1) ++ [b])).1) (swapL c.l h f.dead (op.take m) (q.take (q.length - 1) ++ [a]) (q.take (q.length - 1) ++ [b])).2) := by
 have hC := G.hC;have hm := G.hm;have hp := c_SwapOO (lo := lo) (se := se) (re := re) G (q.take (q.length - 1) ++ [a]) (q.take (q.length - 1) ++ [b]) (q.length - 1 + 1) (q.length - 1 + 1) .whole .whole (by simp) (by simp) (by omega) (by omega);have etk : ∀ w : El_vt,(q.take (q.length - 1) ++ [w]).take (q.length - 1 + 1) = q.take (q.length - 1) ++ [w] := fun w => List.take_of_length_le (by simp);rw [etk,etk] at hp;generalize swapL c.l h f.dead (op.take m) (q.take (q.length - 1) ++ [a]) (q.take (q.length - 1) ++ [b]) = P at *;obtain ⟨e,o'⟩ := P;simp only at hp ⊢;have hd : decide (((a :: b :: r).length : Int) < 2) = false := decide_eq_false (by simp; omega);have eo : (o == 64281) = true := ho;have hv1 := c_Val c.l G.hl G.hg b a;rw [hv1e] at hv1;have hv2 := c_Val c.l G.hl G.hg (diffF a b) (lastF q);rw [hv2e] at hv2;have hdf := c_Diff a b;have e0 : ((q.length : Int) == 0) = false := by simpa using hq
 have hw : IntKind.i64.wrap ((q.length : Int) - 1) = ((q.length - 1 : Nat) : Int) := by rw [wrap_i64 (by omega) (by omega)]; omega
 have hz : q.getD (q.length - 1) (S.zero .vt) = lastF q := rfl;generalize lastF q = z at *;have e5 : (z.num == 5) = true := by simpa using h5
 generalize fs ++ [f] = fr at *;clear G;have hll := hlb C;have hkaa := hka C;have hkbb := hkb C;cases C;all_goals try exact absurd rfl hC
 all_goals
  refine specE ok sh77 rfl ?_;(conv=>whnf);refine cQ [0,1,2,3,4,5] hll ?_;(conv=>whnf);simp only [e0];(conv=>whnf);rw [hw];refine ⟨rfl,by omega,by omega,?_⟩;rw [show 0 + Int.toNat ((q.length - 1 : Nat) : Int) = q.length - 1 by rw [Nat.zero_add,Int.toNat_natCast]];(conv=>whnf);refine ⟨rfl,by omega,by decide,?_⟩;rw [hz];(conv=>whnf);simp only [bne,e5];(conv=>whnf);refine ⟨rfl,by decide,by show (0 : Int) < ((a :: b :: r).length : Nat); simp <;> omega,?_⟩
  (conv=>whnf);refine ⟨by show 0 < (a :: b :: r).length; simp,by decide,?_⟩;(conv=>whnf);refine ⟨rfl,by decide,by show (1 : Int) < ((a :: b :: r).length : Nat); simp <;> omega,?_⟩
  (conv=>whnf);refine ⟨by show 1 < (a :: b :: r).length; simp,by decide,?_⟩;(conv=>whnf);refine ⟨?_,?_⟩
  all_goals
   (conv=>whnf);try (refine ⟨by trivial,?_⟩;conv=>whnf)
   try (refine ⟨by trivial,?_⟩;conv=>whnf)
   try (refine ⟨by trivial,?_⟩;conv=>whnf)
   refine cQ [0,1,2,3,4,5,6] hkaa ?_;(conv=>whnf);refine cQ [0,1,2,3,4,5,6] hkbb ?_;(conv=>whnf);refine ⟨?_,?_⟩
   · (conv=>whnf);refine cQ [] hdf ?_;(conv=>whnf);try (refine ⟨by trivial,?_⟩;conv=>whnf)
     refine ⟨?_,?_⟩
     all_goals
      (conv=>whnf);try (refine ⟨by trivial,?_⟩;conv=>whnf)
      try (refine ⟨by trivial,?_⟩;conv=>whnf)
      try (refine ⟨by trivial,?_⟩;conv=>whnf)
      try (refine ⟨by trivial,?_⟩;conv=>whnf)
      simp only [eo];(conv=>whnf);rw [hw];refine ⟨rfl,by omega,by omega,by omega,rfl,?_⟩;rw [show (Int.toNat ((q.length - 1 : Nat) : Int) - Int.toNat 0) = q.length - 1 by rw [Int.toNat_natCast]; rfl,show (0 + Int.toNat 0) = 0 from rfl];(conv=>whnf);rw [hw];refine ⟨rfl,by omega,by omega,?_⟩;rw [show 0 + Int.toNat ((q.length - 1 : Nat) : Int) = q.length - 1 by rw [Nat.zero_add,Int.toNat_natCast]];(conv=>whnf);refine ⟨rfl,by omega,by decide,?_⟩;rw [hz];(conv=>whnf);try (refine ⟨by trivial,?_⟩;conv=>whnf)
      try (refine ⟨by trivial,?_⟩;conv=>whnf)
      refine cQ [] hv1 ?_;(conv=>whnf);refine cQ [] hv2 ?_;(conv=>whnf);refine ⟨?_,?_⟩
      · (conv=>whnf);refine tQ ?_;(conv=>whnf);refine ⟨?_,?_⟩
        · (conv=>whnf);refine ⟨rfl,by simp,?_⟩;(conv=>whnf);refine ⟨rfl,by show 0 + (q.length - 1) ≤ q.length; omega,fits_big (by show q.length - 1 + 1 ≤ _; omega) (by decide),by simp,?_⟩;(conv=>whnf);refine tQ ?_;(conv=>whnf);refine tQ ?_;(conv=>whnf);refine ⟨rfl,by simp,?_⟩;(conv=>whnf);refine ⟨rfl,by show 0 + (q.length - 1) ≤ q.length; omega,fits_big (by show q.length - 1 + 1 ≤ _; omega) (by decide),by simp,?_⟩;(conv=>whnf);refine tQ ?_;(conv=>whnf);refine rQ [0,1,2,3,4,5,14,16] hp ?_;rintro r H' ⟨rfl,m2,C2,op2,hm2',hC2,ho2,rfl⟩;cases C2;all_goals try exact absurd rfl hC2
          all_goals
           (conv=>whnf);exact eQ [0,1,2,3,4,5,6,17] ⟨rfl,m2,_,op2,hm2',hC2,ho2,rfl⟩
        · (conv=>whnf);refine tQ ?_;(conv=>whnf);refine ⟨rfl,by simp,?_⟩;(conv=>whnf);refine ⟨rfl,by show 0 + (q.length - 1) ≤ q.length; omega,fits_big (by show q.length - 1 + 1 ≤ _; omega) (by decide),by simp,?_⟩;(conv=>whnf);refine tQ ?_;(conv=>whnf);refine ⟨rfl,by simp,?_⟩;(conv=>whnf);refine ⟨rfl,by show 0 + (q.length - 1) ≤ q.length; omega,fits_big (by show q.length - 1 + 1 ≤ _; omega) (by decide),by simp,?_⟩;(conv=>whnf);refine tQ ?_;(conv=>whnf);refine rQ [0,1,2,3,4,5,15,16] hp ?_;rintro r H' ⟨rfl,m2,C2,op2,hm2',hC2,ho2,rfl⟩;cases C2;all_goals try exact absurd rfl hC2
          all_goals
           (conv=>whnf);exact eQ [0,1,2,3,4,5,6,17] ⟨rfl,m2,_,op2,hm2',hC2,ho2,rfl⟩
      · (conv=>whnf);refine tQ ?_;(conv=>whnf);refine tQ ?_;(conv=>whnf);refine ⟨rfl,by simp,?_⟩;(conv=>whnf);refine ⟨rfl,by show 0 + (q.length - 1) ≤ q.length; omega,fits_big (by show q.length - 1 + 1 ≤ _; omega) (by decide),by simp,?_⟩;(conv=>whnf);refine tQ ?_;(conv=>whnf);refine ⟨rfl,by simp,?_⟩;(conv=>whnf);refine ⟨rfl,by show 0 + (q.length - 1) ≤ q.length; omega,fits_big (by show q.length - 1 + 1 ≤ _; omega) (by decide),by simp,?_⟩;(conv=>whnf);refine tQ ?_;(conv=>whnf);refine rQ [0,1,2,3,4,5,15,16] hp ?_;rintro r H' ⟨rfl,m2,C2,op2,hm2',hC2,ho2,rfl⟩;cases C2;all_goals try exact absurd rfl hC2
        all_goals
         (conv=>whnf);exact eQ [0,1,2,3,4,5,6,17] ⟨rfl,m2,_,op2,hm2',hC2,ho2,rfl⟩
   · refine ⟨?_,?_⟩
     all_goals
      (conv=>whnf);try (refine ⟨by trivial,?_⟩;conv=>whnf)
      refine ⟨?_,?_⟩
      · (conv=>whnf);refine cQ [] hdf ?_;(conv=>whnf);try (refine ⟨by trivial,?_⟩;conv=>whnf)
        try (refine ⟨by trivial,?_⟩;conv=>whnf)
        try (refine ⟨by trivial,?_⟩;conv=>whnf)
        try (refine ⟨by trivial,?_⟩;conv=>whnf)
        simp only [eo];(conv=>whnf);rw [hw];refine ⟨rfl,by omega,by omega,by omega,rfl,?_⟩;rw [show (Int.toNat ((q.length - 1 : Nat) : Int) - Int.toNat 0) = q.length - 1 by rw [Int.toNat_natCast]; rfl,show (0 + Int.toNat 0) = 0 from rfl];(conv=>whnf);rw [hw];refine ⟨rfl,by omega,by omega,?_⟩;rw [show 0 + Int.toNat ((q.length - 1 : Nat) : Int) = q.length - 1 by rw [Nat.zero_add,Int.toNat_natCast]];(conv=>whnf);refine ⟨rfl,by omega,by decide,?_⟩;rw [hz];(conv=>whnf);try (refine ⟨by trivial,?_⟩;conv=>whnf)
        try (refine ⟨by trivial,?_⟩;conv=>whnf)
        refine cQ [] hv1 ?_;(conv=>whnf);refine cQ [] hv2 ?_;(conv=>whnf);refine ⟨?_,?_⟩
        · (conv=>whnf);refine tQ ?_;(conv=>whnf);refine ⟨?_,?_⟩
          · (conv=>whnf);refine ⟨rfl,by simp,?_⟩;(conv=>whnf);refine ⟨rfl,by show 0 + (q.length - 1) ≤ q.length; omega,fits_big (by show q.length - 1 + 1 ≤ _; omega) (by decide),by simp,?_⟩;(conv=>whnf);refine tQ ?_;(conv=>whnf);refine tQ ?_;(conv=>whnf);refine ⟨rfl,by simp,?_⟩;(conv=>whnf);refine ⟨rfl,by show 0 + (q.length - 1) ≤ q.length; omega,fits_big (by show q.length - 1 + 1 ≤ _; omega) (by decide),by simp,?_⟩;(conv=>whnf);refine tQ ?_;(conv=>whnf);refine rQ [0,1,2,3,4,5,14,16] hp ?_;rintro r H' ⟨rfl,m2,C2,op2,hm2',hC2,ho2,rfl⟩;cases C2;all_goals try exact absurd rfl hC2
            all_goals
             (conv=>whnf);exact eQ [0,1,2,3,4,5,6,17] ⟨rfl,m2,_,op2,hm2',hC2,ho2,rfl⟩
          · (conv=>whnf);refine tQ ?_;(conv=>whnf);refine ⟨rfl,by simp,?_⟩;(conv=>whnf);refine ⟨rfl,by show 0 + (q.length - 1) ≤ q.length; omega,fits_big (by show q.length - 1 + 1 ≤ _; omega) (by decide),by simp,?_⟩;(conv=>whnf);refine tQ ?_;(conv=>whnf);refine ⟨rfl,by simp,?_⟩;(conv=>whnf);refine ⟨rfl,by show 0 + (q.length - 1) ≤ q.length; omega,fits_big (by show q.length - 1 + 1 ≤ _; omega) (by decide),by simp,?_⟩;(conv=>whnf);refine tQ ?_;(conv=>whnf);refine rQ [0,1,2,3,4,5,15,16] hp ?_;rintro r H' ⟨rfl,m2,C2,op2,hm2',hC2,ho2,rfl⟩;cases C2;all_goals try exact absurd rfl hC2
            all_goals
             (conv=>whnf);exact eQ [0,1,2,3,4,5,6,17] ⟨rfl,m2,_,op2,hm2',hC2,ho2,rfl⟩
        · (conv=>whnf);refine tQ ?_;(conv=>whnf);refine tQ ?_;(conv=>whnf);refine ⟨rfl,by simp,?_⟩;(conv=>whnf);refine ⟨rfl,by show 0 + (q.length - 1) ≤ q.length; omega,fits_big (by show q.length - 1 + 1 ≤ _; omega) (by decide),by simp,?_⟩;(conv=>whnf);refine tQ ?_;(conv=>whnf);refine ⟨rfl,by simp,?_⟩;(conv=>whnf);refine ⟨rfl,by show 0 + (q.length - 1) ≤ q.length; omega,fits_big (by show q.length - 1 + 1 ≤ _; omega) (by decide),by simp,?_⟩;(conv=>whnf);refine tQ ?_;(conv=>whnf);refine rQ [0,1,2,3,4,5,15,16] hp ?_;rintro r H' ⟨rfl,m2,C2,op2,hm2',hC2,ho2,rfl⟩;cases C2;all_goals try exact absurd rfl hC2
          all_goals
           (conv=>whnf);exact eQ [0,1,2,3,4,5,6,17] ⟨rfl,m2,_,op2,hm2',hC2,ho2,rfl⟩
      · (conv=>whnf);try (refine ⟨by trivial,?_⟩;conv=>whnf)
        refine cQ [] hdf ?_;(conv=>whnf);try (refine ⟨by trivial,?_⟩;conv=>whnf)
        try (refine ⟨by trivial,?_⟩;conv=>whnf)
        try (refine ⟨by trivial,?_⟩;conv=>whnf)
        try (refine ⟨by trivial,?_⟩;conv=>whnf)
        simp only [eo];(conv=>whnf);rw [hw];refine ⟨rfl,by omega,by omega,by omega,rfl,?_⟩;rw [show (Int.toNat ((q.length - 1 : Nat) : Int) - Int.toNat 0) = q.length - 1 by rw [Int.toNat_natCast]; rfl,show (0 + Int.toNat 0) = 0 from rfl];(conv=>whnf);rw [hw];refine ⟨rfl,by omega,by omega,?_⟩;rw [show 0 + Int.toNat ((q.length - 1 : Nat) : Int) = q.length - 1 by rw [Nat.zero_add,Int.toNat_natCast]];(conv=>whnf);refine ⟨rfl,by omega,by decide,?_⟩;rw [hz];(conv=>whnf);try (refine ⟨by trivial,?_⟩;conv=>whnf)
        try (refine ⟨by trivial,?_⟩;conv=>whnf)
        refine cQ [] hv1 ?_;(conv=>whnf);refine cQ [] hv2 ?_;(conv=>whnf);refine ⟨?_,?_⟩
        · (conv=>whnf);refine tQ ?_;(conv=>whnf);refine ⟨?_,?_⟩
          · (conv=>whnf);refine ⟨rfl,by simp,?_⟩;(conv=>whnf);refine ⟨rfl,by show 0 + (q.length - 1) ≤ q.length; omega,fits_big (by show q.length - 1 + 1 ≤ _; omega) (by decide),by simp,?_⟩;(conv=>whnf);refine tQ ?_;(conv=>whnf);refine tQ ?_;(conv=>whnf);refine ⟨rfl,by simp,?_⟩;(conv=>whnf);refine ⟨rfl,by show 0 + (q.length - 1) ≤ q.length; omega,fits_big (by show q.length - 1 + 1 ≤ _; omega) (by decide),by simp,?_⟩;(conv=>whnf);refine tQ ?_;(conv=>whnf);refine rQ [0,1,2,3,4,5,14,16] hp ?_;rintro r H' ⟨rfl,m2,C2,op2,hm2',hC2,ho2,rfl⟩;cases C2;all_goals try exact absurd rfl hC2
            all_goals
             (conv=>whnf);exact eQ [0,1,2,3,4,5,6,17] ⟨rfl,m2,_,op2,hm2',hC2,ho2,rfl⟩
          · (conv=>whnf);refine tQ ?_;(conv=>whnf);refine ⟨rfl,by simp,?_⟩;(conv=>whnf);refine ⟨rfl,by show 0 + (q.length - 1) ≤ q.length; omega,fits_big (by show q.length - 1 + 1 ≤ _; omega) (by decide),by simp,?_⟩;(conv=>whnf);refine tQ ?_;(conv=>whnf);refine ⟨rfl,by simp,?_⟩;(conv=>whnf);refine ⟨rfl,by show 0 + (q.length - 1) ≤ q.length; omega,fits_big (by show q.length - 1 + 1 ≤ _; omega) (by decide),by simp,?_⟩;(conv=>whnf);refine tQ ?_;(conv=>whnf);refine rQ [0,1,2,3,4,5,15,16] hp ?_;rintro r H' ⟨rfl,m2,C2,op2,hm2',hC2,ho2,rfl⟩;cases C2;all_goals try exact absurd rfl hC2
            all_goals
             (conv=>whnf);exact eQ [0,1,2,3,4,5,6,17] ⟨rfl,m2,_,op2,hm2',hC2,ho2,rfl⟩
        · (conv=>whnf);refine tQ ?_;(conv=>whnf);refine tQ ?_;(conv=>whnf);refine ⟨rfl,by simp,?_⟩;(conv=>whnf);refine ⟨rfl,by show 0 + (q.length - 1) ≤ q.length; omega,fits_big (by show q.length - 1 + 1 ≤ _; omega) (by decide),by simp,?_⟩;(conv=>whnf);refine tQ ?_;(conv=>whnf);refine ⟨rfl,by simp,?_⟩;(conv=>whnf);refine ⟨rfl,by show 0 + (q.length - 1) ≤ q.length; omega,fits_big (by show q.length - 1 + 1 ≤ _; omega) (by decide),by simp,?_⟩;(conv=>whnf);refine tQ ?_;(conv=>whnf);refine rQ [0,1,2,3,4,5,15,16] hp ?_;rintro r H' ⟨rfl,m2,C2,op2,hm2',hC2,ho2,rfl⟩;cases C2;all_goals try exact absurd rfl hC2
          all_goals
           (conv=>whnf);exact eQ [0,1,2,3,4,5,6,17] ⟨rfl,m2,_,op2,hm2',hC2,ho2,rfl⟩
end Ck
end Sh
end Go.Proofs.YtomdfaelgcefdaaGreatDoor
