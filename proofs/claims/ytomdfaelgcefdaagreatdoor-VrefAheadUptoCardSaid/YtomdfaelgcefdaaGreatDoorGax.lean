/- CkR. -/
import Derived.Test.YtomdfaelgcefdaaGreatDoorGaw
set_option maxRecDepth 100000
set_option maxHeartbeats 64000000
namespace Go.Proofs.YtomdfaelgcefdaaGreatDoor
open Go
namespace Sh
namespace Ck
variable {c : Cx} {i : In} {lo : List El_vt} {se : List Bool} {re : List El_vt} {op : List El_vt} {fr fs : List El_frame} {f : El_frame} {h m : Nat} {C : Cp}
noncomputable def elemF (c : Cx) (i : In) (h : Nat) (d : Bool) (ops : List El_vt) (g : El_fld) (v : El_vt) : Int × List El_vt :=
 if i.op = 64273 ∧ ¬ (cmpF c.l i.y 3).2 = 0 then ((cmpF c.l i.y 3).2,ops)
 else if fldF i.op g = 0 then (if segF c i g = 0 then
  (if i.op = 64270 then swapL c.l h d ops [⟨5,true,i.x⟩,⟨1,false,0⟩,v] []
  else if i.op = 64272 then swapL c.l h d ops [⟨5,true,i.x⟩,⟨1,false,0⟩,v,⟨1,false,0⟩] []
  else if i.op = 64273 then (if valB c.l (tyF (((cmpF c.l i.y 3).1.fields.getD []).getD 0 (zeroT .fld))) (tyF g) = true then swapL c.l h d ops [⟨5,true,i.x⟩,⟨1,false,0⟩,⟨5,true,i.y⟩,⟨1,false,0⟩,⟨1,false,0⟩] [] else (131,ops))
  else if i.op = 64274 ∨ i.op = 64275 then swapL c.l h d ops [⟨5,true,i.x⟩,⟨1,false,0⟩,⟨1,false,0⟩,⟨1,false,0⟩] []
  else swapL c.l h d ops [⟨5,true,i.x⟩,⟨1,false,0⟩] [v])
  else (segF c i g,ops))
 else (fldF i.op g,ops)
theorem c_el1 (G : Gd c.l fs f h m C op) (o x y n : Int) (ty : List El_vt) (hx : U32 x) (g : El_fld) (v : El_vt) (h73 : ¬ o = 64273) (e : Int) (he : ¬ e = 0)
    (hfl : ∀ C',SpecD S 122 [.ptr 6 0,.agg (enc_fld g)] (ckK c ⟨o,x,y,n,ty⟩ lo se re m C' op (fs ++ [f])) (.int .i64 e) (ckK c ⟨o,x,y,n,ty⟩ lo se re m C' op (fs ++ [f])))
    : Spec S 125 [.ptr 6 0,.agg (enc_fld g),.agg (enc_vt v)] (ckK c ⟨o,x,y,n,ty⟩ lo se re m C op (fs ++ [f])) (okK c ⟨o,x,y,n,ty⟩ lo se re (fs ++ [f]) (.int .i64 e) (op.take m)) := by
 have hsf := fun C' => c_self (c := c) (i := ⟨o,x,y,n,ty⟩) (lo := lo) (se := se) (re := re) (op := op) (fr := fs ++ [f]) (m := m) (C := C') true hx;have hn := c_num 1;have hC := G.hC;have hm := G.hm;have e73 : (o == 64273) = false := by simpa using h73
 have he2 : (e == 0) = false := by simpa using he
 refine okK_of rfl (fun _ _ => rfl) ?_;generalize fs ++ [f] = fr at *;clear G;try simp only
 have hff := hfl C;have hss := hsf C;cases C;all_goals try exact absurd rfl hC
 all_goals
  refine specE ok sh125 rfl ?_;(conv=>whnf);refine cQ [] hn ?_;(conv=>whnf);try (refine ⟨by trivial,?_⟩;conv=>whnf)
  refine cQ [0,1,2,3,4,5,6] hss ?_;(conv=>whnf);try (refine ⟨by trivial,?_⟩;conv=>whnf)
  try (refine ⟨by trivial,?_⟩;conv=>whnf)
  try (refine ⟨by trivial,?_⟩;conv=>whnf)
  try (refine ⟨by trivial,?_⟩;conv=>whnf)
  simp only [e73];(conv=>whnf);refine cQ [0,1,2,3,4,5,6] hff ?_;(conv=>whnf);simp only [bne,he2];(conv=>whnf);exact eQ [0,1,2,3,4,5,6] ⟨rfl,m,_,op,hm,hC,rfl,.inl rfl⟩
theorem c_el2 (G : Gd c.l fs f h m C op) (o x y n : Int) (ty : List El_vt) (hx : U32 x) (g : El_fld) (v : El_vt) (h73 : ¬ o = 64273) (e : Int) (he : ¬ e = 0)
    (hfl : ∀ C',SpecD S 122 [.ptr 6 0,.agg (enc_fld g)] (ckK c ⟨o,x,y,n,ty⟩ lo se re m C' op (fs ++ [f])) (.int .i64 0) (ckK c ⟨o,x,y,n,ty⟩ lo se re m C' op (fs ++ [f])))
    (hsg : ∀ C',SpecD S 124 [.ptr 6 0,.agg (enc_fld g)] (ckK c ⟨o,x,y,n,ty⟩ lo se re m C' op (fs ++ [f])) (.int .i64 e) (ckK c ⟨o,x,y,n,ty⟩ lo se re m C' op (fs ++ [f])))
    : Spec S 125 [.ptr 6 0,.agg (enc_fld g),.agg (enc_vt v)] (ckK c ⟨o,x,y,n,ty⟩ lo se re m C op (fs ++ [f])) (okK c ⟨o,x,y,n,ty⟩ lo se re (fs ++ [f]) (.int .i64 e) (op.take m)) := by
 have hsf := fun C' => c_self (c := c) (i := ⟨o,x,y,n,ty⟩) (lo := lo) (se := se) (re := re) (op := op) (fr := fs ++ [f]) (m := m) (C := C') true hx;have hn := c_num 1;have hC := G.hC;have hm := G.hm;have e73 : (o == 64273) = false := by simpa using h73
 have he2 : (e == 0) = false := by simpa using he
 refine okK_of rfl (fun _ _ => rfl) ?_;generalize fs ++ [f] = fr at *;clear G;try simp only
 have hff := hfl C;have hgg := hsg C;have hss := hsf C;cases C;all_goals try exact absurd rfl hC
 all_goals
  refine specE ok sh125 rfl ?_;(conv=>whnf);refine cQ [] hn ?_;(conv=>whnf);try (refine ⟨by trivial,?_⟩;conv=>whnf)
  refine cQ [0,1,2,3,4,5,6] hss ?_;(conv=>whnf);try (refine ⟨by trivial,?_⟩;conv=>whnf)
  try (refine ⟨by trivial,?_⟩;conv=>whnf)
  try (refine ⟨by trivial,?_⟩;conv=>whnf)
  try (refine ⟨by trivial,?_⟩;conv=>whnf)
  simp only [e73];(conv=>whnf);refine cQ [0,1,2,3,4,5,6] hff ?_;(conv=>whnf);refine cQ [0,1,2,3,4,5,6] hgg ?_;(conv=>whnf);simp only [bne,he2];(conv=>whnf);exact eQ [0,1,2,3,4,5,6] ⟨rfl,m,_,op,hm,hC,rfl,.inl rfl⟩
theorem c_el3 (G : Gd c.l fs f h m C op) (x y n : Int) (ty : List El_vt) (hx : U32 x) (g : El_fld) (v : El_vt)
    (hfl : ∀ C',SpecD S 122 [.ptr 6 0,.agg (enc_fld g)] (ckK c ⟨64270,x,y,n,ty⟩ lo se re m C' op (fs ++ [f])) (.int .i64 0) (ckK c ⟨64270,x,y,n,ty⟩ lo se re m C' op (fs ++ [f])))
    (hsg : ∀ C',SpecD S 124 [.ptr 6 0,.agg (enc_fld g)] (ckK c ⟨64270,x,y,n,ty⟩ lo se re m C' op (fs ++ [f])) (.int .i64 0) (ckK c ⟨64270,x,y,n,ty⟩ lo se re m C' op (fs ++ [f])))
    : Spec S 125 [.ptr 6 0,.agg (enc_fld g),.agg (enc_vt v)] (ckK c ⟨64270,x,y,n,ty⟩ lo se re m C op (fs ++ [f])) (okK c ⟨64270,x,y,n,ty⟩ lo se re (fs ++ [f]) (.int .i64 (swapL c.l h f.dead (op.take m) [⟨5,true,x⟩,⟨1,false,0⟩,v] []).1) (swapL c.l h f.dead (op.take m) [⟨5,true,x⟩,⟨1,false,0⟩,v] []).2) := by
 have hsf := fun C' => c_self (c := c) (i := ⟨64270,x,y,n,ty⟩) (lo := lo) (se := se) (re := re) (op := op) (fr := fs ++ [f]) (m := m) (C := C') true hx;have hn := c_num 1;have hC := G.hC;have hm := G.hm;have hp := c_swpNO (i := ⟨64270,x,y,n,ty⟩) (lo := lo) (se := se) (re := re) G [⟨5,true,x⟩,⟨1,false,0⟩,v] 3 .full (by simp) (by simp)
 change Spec S _ _ _ (swR _ _ _ _ _ _ (swapL c.l h f.dead (op.take m) [⟨5,true,x⟩,⟨1,false,0⟩,v] []) _) at hp
 generalize swapL c.l h f.dead (op.take m) [⟨5,true,x⟩,⟨1,false,0⟩,v] [] = P at *;obtain ⟨e,o'⟩ := P;generalize fs ++ [f] = fr at *;clear G;try simp only
 have hff := hfl C;have hgg := hsg C;have hss := hsf C;cases C;all_goals try exact absurd rfl hC
 all_goals
  refine specE ok sh125 rfl ?_;(conv=>whnf);refine cQ [] hn ?_;(conv=>whnf);try (refine ⟨by trivial,?_⟩;conv=>whnf)
  refine cQ [0,1,2,3,4,5,6] hss ?_;(conv=>whnf);try (refine ⟨by trivial,?_⟩;conv=>whnf)
  try (refine ⟨by trivial,?_⟩;conv=>whnf)
  try (refine ⟨by trivial,?_⟩;conv=>whnf)
  try (refine ⟨by trivial,?_⟩;conv=>whnf)
  refine cQ [0,1,2,3,4,5,6] hff ?_;(conv=>whnf);refine cQ [0,1,2,3,4,5,6] hgg ?_;(conv=>whnf);try (refine ⟨by trivial,?_⟩;conv=>whnf)
  refine rQ [0,1,2,3,4,5,6,12] hp ?_;rintro r H' ⟨rfl,m2,C2,op2,hm2',hC2,ho2,rfl⟩;cases C2;all_goals try exact absurd rfl hC2
  all_goals
   (conv=>whnf);exact eQ [0,1,2,3,4,5,6,13] ⟨rfl,m2,_,op2,hm2',hC2,ho2,rfl⟩
theorem c_el4 (G : Gd c.l fs f h m C op) (x y n : Int) (ty : List El_vt) (hx : U32 x) (g : El_fld) (v : El_vt)
    (hfl : ∀ C',SpecD S 122 [.ptr 6 0,.agg (enc_fld g)] (ckK c ⟨64272,x,y,n,ty⟩ lo se re m C' op (fs ++ [f])) (.int .i64 0) (ckK c ⟨64272,x,y,n,ty⟩ lo se re m C' op (fs ++ [f])))
    (hsg : ∀ C',SpecD S 124 [.ptr 6 0,.agg (enc_fld g)] (ckK c ⟨64272,x,y,n,ty⟩ lo se re m C' op (fs ++ [f])) (.int .i64 0) (ckK c ⟨64272,x,y,n,ty⟩ lo se re m C' op (fs ++ [f])))
    : Spec S 125 [.ptr 6 0,.agg (enc_fld g),.agg (enc_vt v)] (ckK c ⟨64272,x,y,n,ty⟩ lo se re m C op (fs ++ [f])) (okK c ⟨64272,x,y,n,ty⟩ lo se re (fs ++ [f]) (.int .i64 (swapL c.l h f.dead (op.take m) [⟨5,true,x⟩,⟨1,false,0⟩,v,⟨1,false,0⟩] []).1) (swapL c.l h f.dead (op.take m) [⟨5,true,x⟩,⟨1,false,0⟩,v,⟨1,false,0⟩] []).2) := by
 have hsf := fun C' => c_self (c := c) (i := ⟨64272,x,y,n,ty⟩) (lo := lo) (se := se) (re := re) (op := op) (fr := fs ++ [f]) (m := m) (C := C') true hx;have hn := c_num 1;have hC := G.hC;have hm := G.hm;have hp := c_swpNO (i := ⟨64272,x,y,n,ty⟩) (lo := lo) (se := se) (re := re) G [⟨5,true,x⟩,⟨1,false,0⟩,v,⟨1,false,0⟩] 4 .full (by simp) (by simp)
 change Spec S _ _ _ (swR _ _ _ _ _ _ (swapL c.l h f.dead (op.take m) [⟨5,true,x⟩,⟨1,false,0⟩,v,⟨1,false,0⟩] []) _) at hp
 generalize swapL c.l h f.dead (op.take m) [⟨5,true,x⟩,⟨1,false,0⟩,v,⟨1,false,0⟩] [] = P at *;obtain ⟨e,o'⟩ := P;generalize fs ++ [f] = fr at *;clear G;try simp only
 have hff := hfl C;have hgg := hsg C;have hss := hsf C;cases C;all_goals try exact absurd rfl hC
 all_goals
  refine specE ok sh125 rfl ?_;(conv=>whnf);refine cQ [] hn ?_;(conv=>whnf);try (refine ⟨by trivial,?_⟩;conv=>whnf)
  refine cQ [0,1,2,3,4,5,6] hss ?_;(conv=>whnf);try (refine ⟨by trivial,?_⟩;conv=>whnf)
  try (refine ⟨by trivial,?_⟩;conv=>whnf)
  try (refine ⟨by trivial,?_⟩;conv=>whnf)
  try (refine ⟨by trivial,?_⟩;conv=>whnf)
  refine cQ [0,1,2,3,4,5,6] hff ?_;(conv=>whnf);refine cQ [0,1,2,3,4,5,6] hgg ?_;(conv=>whnf);try (refine ⟨by trivial,?_⟩;conv=>whnf)
  refine rQ [0,1,2,3,4,5,6,12] hp ?_;rintro r H' ⟨rfl,m2,C2,op2,hm2',hC2,ho2,rfl⟩;cases C2;all_goals try exact absurd rfl hC2
  all_goals
   (conv=>whnf);exact eQ [0,1,2,3,4,5,6,13] ⟨rfl,m2,_,op2,hm2',hC2,ho2,rfl⟩
theorem c_el5 (G : Gd c.l fs f h m C op) (x y n : Int) (ty : List El_vt) (hx : U32 x) (g : El_fld) (v : El_vt)
    (hfl : ∀ C',SpecD S 122 [.ptr 6 0,.agg (enc_fld g)] (ckK c ⟨64274,x,y,n,ty⟩ lo se re m C' op (fs ++ [f])) (.int .i64 0) (ckK c ⟨64274,x,y,n,ty⟩ lo se re m C' op (fs ++ [f])))
    (hsg : ∀ C',SpecD S 124 [.ptr 6 0,.agg (enc_fld g)] (ckK c ⟨64274,x,y,n,ty⟩ lo se re m C' op (fs ++ [f])) (.int .i64 0) (ckK c ⟨64274,x,y,n,ty⟩ lo se re m C' op (fs ++ [f])))
    : Spec S 125 [.ptr 6 0,.agg (enc_fld g),.agg (enc_vt v)] (ckK c ⟨64274,x,y,n,ty⟩ lo se re m C op (fs ++ [f])) (okK c ⟨64274,x,y,n,ty⟩ lo se re (fs ++ [f]) (.int .i64 (swapL c.l h f.dead (op.take m) [⟨5,true,x⟩,⟨1,false,0⟩,⟨1,false,0⟩,⟨1,false,0⟩] []).1) (swapL c.l h f.dead (op.take m) [⟨5,true,x⟩,⟨1,false,0⟩,⟨1,false,0⟩,⟨1,false,0⟩] []).2) := by
 have hsf := fun C' => c_self (c := c) (i := ⟨64274,x,y,n,ty⟩) (lo := lo) (se := se) (re := re) (op := op) (fr := fs ++ [f]) (m := m) (C := C') true hx;have hn := c_num 1;have hC := G.hC;have hm := G.hm;have hp := c_swpNO (i := ⟨64274,x,y,n,ty⟩) (lo := lo) (se := se) (re := re) G [⟨5,true,x⟩,⟨1,false,0⟩,⟨1,false,0⟩,⟨1,false,0⟩] 4 .full (by simp) (by simp)
 change Spec S _ _ _ (swR _ _ _ _ _ _ (swapL c.l h f.dead (op.take m) [⟨5,true,x⟩,⟨1,false,0⟩,⟨1,false,0⟩,⟨1,false,0⟩] []) _) at hp
 generalize swapL c.l h f.dead (op.take m) [⟨5,true,x⟩,⟨1,false,0⟩,⟨1,false,0⟩,⟨1,false,0⟩] [] = P at *;obtain ⟨e,o'⟩ := P;generalize fs ++ [f] = fr at *;clear G;try simp only
 have hff := hfl C;have hgg := hsg C;have hss := hsf C;cases C;all_goals try exact absurd rfl hC
 all_goals
  refine specE ok sh125 rfl ?_;(conv=>whnf);refine cQ [] hn ?_;(conv=>whnf);try (refine ⟨by trivial,?_⟩;conv=>whnf)
  refine cQ [0,1,2,3,4,5,6] hss ?_;(conv=>whnf);try (refine ⟨by trivial,?_⟩;conv=>whnf)
  try (refine ⟨by trivial,?_⟩;conv=>whnf)
  try (refine ⟨by trivial,?_⟩;conv=>whnf)
  try (refine ⟨by trivial,?_⟩;conv=>whnf)
  refine cQ [0,1,2,3,4,5,6] hff ?_;(conv=>whnf);refine cQ [0,1,2,3,4,5,6] hgg ?_;(conv=>whnf);try (refine ⟨by trivial,?_⟩;conv=>whnf)
  refine rQ [0,1,2,3,4,5,6,12] hp ?_;rintro r H' ⟨rfl,m2,C2,op2,hm2',hC2,ho2,rfl⟩;cases C2;all_goals try exact absurd rfl hC2
  all_goals
   (conv=>whnf);exact eQ [0,1,2,3,4,5,6,13] ⟨rfl,m2,_,op2,hm2',hC2,ho2,rfl⟩
theorem c_el6 (G : Gd c.l fs f h m C op) (x y n : Int) (ty : List El_vt) (hx : U32 x) (g : El_fld) (v : El_vt)
    (hfl : ∀ C',SpecD S 122 [.ptr 6 0,.agg (enc_fld g)] (ckK c ⟨64275,x,y,n,ty⟩ lo se re m C' op (fs ++ [f])) (.int .i64 0) (ckK c ⟨64275,x,y,n,ty⟩ lo se re m C' op (fs ++ [f])))
    (hsg : ∀ C',SpecD S 124 [.ptr 6 0,.agg (enc_fld g)] (ckK c ⟨64275,x,y,n,ty⟩ lo se re m C' op (fs ++ [f])) (.int .i64 0) (ckK c ⟨64275,x,y,n,ty⟩ lo se re m C' op (fs ++ [f])))
    : Spec S 125 [.ptr 6 0,.agg (enc_fld g),.agg (enc_vt v)] (ckK c ⟨64275,x,y,n,ty⟩ lo se re m C op (fs ++ [f])) (okK c ⟨64275,x,y,n,ty⟩ lo se re (fs ++ [f]) (.int .i64 (swapL c.l h f.dead (op.take m) [⟨5,true,x⟩,⟨1,false,0⟩,⟨1,false,0⟩,⟨1,false,0⟩] []).1) (swapL c.l h f.dead (op.take m) [⟨5,true,x⟩,⟨1,false,0⟩,⟨1,false,0⟩,⟨1,false,0⟩] []).2) := by
 have hsf := fun C' => c_self (c := c) (i := ⟨64275,x,y,n,ty⟩) (lo := lo) (se := se) (re := re) (op := op) (fr := fs ++ [f]) (m := m) (C := C') true hx;have hn := c_num 1;have hC := G.hC;have hm := G.hm;have hp := c_swpNO (i := ⟨64275,x,y,n,ty⟩) (lo := lo) (se := se) (re := re) G [⟨5,true,x⟩,⟨1,false,0⟩,⟨1,false,0⟩,⟨1,false,0⟩] 4 .full (by simp) (by simp)
 change Spec S _ _ _ (swR _ _ _ _ _ _ (swapL c.l h f.dead (op.take m) [⟨5,true,x⟩,⟨1,false,0⟩,⟨1,false,0⟩,⟨1,false,0⟩] []) _) at hp
 generalize swapL c.l h f.dead (op.take m) [⟨5,true,x⟩,⟨1,false,0⟩,⟨1,false,0⟩,⟨1,false,0⟩] [] = P at *;obtain ⟨e,o'⟩ := P;generalize fs ++ [f] = fr at *;clear G;try simp only
 have hff := hfl C;have hgg := hsg C;have hss := hsf C;cases C;all_goals try exact absurd rfl hC
 all_goals
  refine specE ok sh125 rfl ?_;(conv=>whnf);refine cQ [] hn ?_;(conv=>whnf);try (refine ⟨by trivial,?_⟩;conv=>whnf)
  refine cQ [0,1,2,3,4,5,6] hss ?_;(conv=>whnf);try (refine ⟨by trivial,?_⟩;conv=>whnf)
  try (refine ⟨by trivial,?_⟩;conv=>whnf)
  try (refine ⟨by trivial,?_⟩;conv=>whnf)
  try (refine ⟨by trivial,?_⟩;conv=>whnf)
  refine cQ [0,1,2,3,4,5,6] hff ?_;(conv=>whnf);refine cQ [0,1,2,3,4,5,6] hgg ?_;(conv=>whnf);try (refine ⟨by trivial,?_⟩;conv=>whnf)
  refine rQ [0,1,2,3,4,5,6,12] hp ?_;rintro r H' ⟨rfl,m2,C2,op2,hm2',hC2,ho2,rfl⟩;cases C2;all_goals try exact absurd rfl hC2
  all_goals
   (conv=>whnf);exact eQ [0,1,2,3,4,5,6,13] ⟨rfl,m2,_,op2,hm2',hC2,ho2,rfl⟩
theorem c_el7 (G : Gd c.l fs f h m C op) (o x y n : Int) (ty : List El_vt) (hx : U32 x) (g : El_fld) (v : El_vt) (h1 : ¬ o = 64270) (h2 : ¬ o = 64272) (h73 : ¬ o = 64273) (h4 : ¬ o = 64274) (h5 : ¬ o = 64275)
    (hfl : ∀ C',SpecD S 122 [.ptr 6 0,.agg (enc_fld g)] (ckK c ⟨o,x,y,n,ty⟩ lo se re m C' op (fs ++ [f])) (.int .i64 0) (ckK c ⟨o,x,y,n,ty⟩ lo se re m C' op (fs ++ [f])))
    (hsg : ∀ C',SpecD S 124 [.ptr 6 0,.agg (enc_fld g)] (ckK c ⟨o,x,y,n,ty⟩ lo se re m C' op (fs ++ [f])) (.int .i64 0) (ckK c ⟨o,x,y,n,ty⟩ lo se re m C' op (fs ++ [f])))
    : Spec S 125 [.ptr 6 0,.agg (enc_fld g),.agg (enc_vt v)] (ckK c ⟨o,x,y,n,ty⟩ lo se re m C op (fs ++ [f])) (okK c ⟨o,x,y,n,ty⟩ lo se re (fs ++ [f]) (.int .i64 (swapL c.l h f.dead (op.take m) [⟨5,true,x⟩,⟨1,false,0⟩] [v]).1) (swapL c.l h f.dead (op.take m) [⟨5,true,x⟩,⟨1,false,0⟩] [v]).2) := by
 have hsf := fun C' => c_self (c := c) (i := ⟨o,x,y,n,ty⟩) (lo := lo) (se := se) (re := re) (op := op) (fr := fs ++ [f]) (m := m) (C := C') true hx;have hn := c_num 1;have hC := G.hC;have hm := G.hm;have hp := c_swpOO (i := ⟨o,x,y,n,ty⟩) (lo := lo) (se := se) (re := re) G [v] [⟨5,true,x⟩,⟨1,false,0⟩] 1 2 .full .full (by simp) (by simp) (by simp) (by simp)
 change Spec S _ _ _ (swR _ _ _ _ _ _ (swapL c.l h f.dead (op.take m) [⟨5,true,x⟩,⟨1,false,0⟩] [v]) _) at hp
 generalize swapL c.l h f.dead (op.take m) [⟨5,true,x⟩,⟨1,false,0⟩] [v] = P at *;obtain ⟨e,o'⟩ := P;have e70 : (o == 64270) = false := by simpa using h1
 have e72 : (o == 64272) = false := by simpa using h2
 have e73 : (o == 64273) = false := by simpa using h73
 have e74 : (o == 64274) = false := by simpa using h4
 have e75 : (o == 64275) = false := by simpa using h5
 generalize fs ++ [f] = fr at *;clear G;try simp only
 have hff := hfl C;have hgg := hsg C;have hss := hsf C;cases C;all_goals try exact absurd rfl hC
 all_goals
  refine specE ok sh125 rfl ?_;(conv=>whnf);refine cQ [] hn ?_;(conv=>whnf);try (refine ⟨by trivial,?_⟩;conv=>whnf)
  refine cQ [0,1,2,3,4,5,6] hss ?_;(conv=>whnf);try (refine ⟨by trivial,?_⟩;conv=>whnf)
  try (refine ⟨by trivial,?_⟩;conv=>whnf)
  try (refine ⟨by trivial,?_⟩;conv=>whnf)
  try (refine ⟨by trivial,?_⟩;conv=>whnf)
  simp only [e73];(conv=>whnf);refine cQ [0,1,2,3,4,5,6] hff ?_;(conv=>whnf);refine cQ [0,1,2,3,4,5,6] hgg ?_;(conv=>whnf);simp only [e70];(conv=>whnf);simp only [e72];(conv=>whnf);simp only [e73];(conv=>whnf);simp only [e74];(conv=>whnf);simp only [e75];(conv=>whnf);try (refine ⟨by trivial,?_⟩;conv=>whnf)
  try (refine ⟨by trivial,?_⟩;conv=>whnf)
  refine rQ [0,1,2,3,4,5,6,12,13] hp ?_;rintro r H' ⟨rfl,m2,C2,op2,hm2',hC2,ho2,rfl⟩;cases C2;all_goals try exact absurd rfl hC2
  all_goals
   (conv=>whnf);exact eQ [0,1,2,3,4,5,6,14] ⟨rfl,m2,_,op2,hm2',hC2,ho2,rfl⟩
theorem c_el8 (G : Gd c.l fs f h m C op) (x y n : Int) (ty : List El_vt) (hx : U32 x) (g : El_fld) (v : El_vt) (e : Int) (he : ¬ e = 0)
    (hcm : ∀ C',SpecD S 119 [.ptr 6 0,.int .u32 y,.int .i64 3] (ckK c ⟨64273,x,y,n,ty⟩ lo se re m C' op (fs ++ [f])) (.tup [.agg [.int .i64 0,.nils,.nils,.nils],.int .i64 e]) (ckK c ⟨64273,x,y,n,ty⟩ lo se re m C' op (fs ++ [f])))
    : Spec S 125 [.ptr 6 0,.agg (enc_fld g),.agg (enc_vt v)] (ckK c ⟨64273,x,y,n,ty⟩ lo se re m C op (fs ++ [f])) (okK c ⟨64273,x,y,n,ty⟩ lo se re (fs ++ [f]) (.int .i64 e) (op.take m)) := by
 have hsf := fun C' => c_self (c := c) (i := ⟨64273,x,y,n,ty⟩) (lo := lo) (se := se) (re := re) (op := op) (fr := fs ++ [f]) (m := m) (C := C') true hx;have hn := c_num 1;have hC := G.hC;have hm := G.hm;have he2 : (e == 0) = false := by simpa using he
 refine okK_of rfl (fun _ _ => rfl) ?_;generalize fs ++ [f] = fr at *;clear G;try simp only
 have hcc := hcm C;have hss := hsf C;cases C;all_goals try exact absurd rfl hC
 all_goals
  refine specE ok sh125 rfl ?_;(conv=>whnf);refine cQ [] hn ?_;(conv=>whnf);try (refine ⟨by trivial,?_⟩;conv=>whnf)
  refine cQ [0,1,2,3,4,5,6] hss ?_;(conv=>whnf);try (refine ⟨by trivial,?_⟩;conv=>whnf)
  try (refine ⟨by trivial,?_⟩;conv=>whnf)
  try (refine ⟨by trivial,?_⟩;conv=>whnf)
  try (refine ⟨by trivial,?_⟩;conv=>whnf)
  refine cQ [0,1,2,3,4,5,6] hcc ?_;(conv=>whnf);try (refine ⟨by trivial,?_⟩;conv=>whnf)
  try (refine ⟨by trivial,?_⟩;conv=>whnf)
  simp only [bne,he2];(conv=>whnf);exact eQ [0,1,2,3,4,5,6] ⟨rfl,m,_,op,hm,hC,rfl,.inl rfl⟩
theorem c_el9 (G : Gd c.l fs f h m C op) (x y n : Int) (ty : List El_vt) (hx : U32 x) (g : El_fld) (v : El_vt) (sk : Int) (p r : List El_vt) (w : El_fld) (e : Int) (he : ¬ e = 0)
    (hcm : ∀ C',SpecD S 119 [.ptr 6 0,.int .u32 y,.int .i64 3] (ckK c ⟨64273,x,y,n,ty⟩ lo se re m C' op (fs ++ [f])) (cmpV sk p r [w]) (ckK c ⟨64273,x,y,n,ty⟩ lo se re m C' op (fs ++ [f])))
    (hfl : ∀ C',SpecD S 122 [.ptr 6 0,.agg (enc_fld g)] (ckK c ⟨64273,x,y,n,ty⟩ lo se re m C' op (fs ++ [f])) (.int .i64 e) (ckK c ⟨64273,x,y,n,ty⟩ lo se re m C' op (fs ++ [f])))
    : Spec S 125 [.ptr 6 0,.agg (enc_fld g),.agg (enc_vt v)] (ckK c ⟨64273,x,y,n,ty⟩ lo se re m C op (fs ++ [f])) (okK c ⟨64273,x,y,n,ty⟩ lo se re (fs ++ [f]) (.int .i64 e) (op.take m)) := by
 have hsf := fun C' => c_self (c := c) (i := ⟨64273,x,y,n,ty⟩) (lo := lo) (se := se) (re := re) (op := op) (fr := fs ++ [f]) (m := m) (C := C') true hx;have hn := c_num 1;have hC := G.hC;have hm := G.hm;have he2 : (e == 0) = false := by simpa using he
 refine okK_of rfl (fun _ _ => rfl) ?_;generalize fs ++ [f] = fr at *;clear G;try simp only
 have hcc := hcm C;have hff := hfl C;have hss := hsf C;cases C;all_goals try exact absurd rfl hC
 all_goals
  refine specE ok sh125 rfl ?_;(conv=>whnf);refine cQ [] hn ?_;(conv=>whnf);try (refine ⟨by trivial,?_⟩;conv=>whnf)
  refine cQ [0,1,2,3,4,5,6] hss ?_;(conv=>whnf);try (refine ⟨by trivial,?_⟩;conv=>whnf)
  try (refine ⟨by trivial,?_⟩;conv=>whnf)
  try (refine ⟨by trivial,?_⟩;conv=>whnf)
  try (refine ⟨by trivial,?_⟩;conv=>whnf)
  refine cQ [0,1,2,3,4,5,6] hcc ?_;(conv=>whnf);try (refine ⟨by trivial,?_⟩;conv=>whnf)
  try (refine ⟨by trivial,?_⟩;conv=>whnf)
  refine cQ [0,1,2,3,4,5,6] hff ?_;(conv=>whnf);simp only [bne,he2];(conv=>whnf);exact eQ [0,1,2,3,4,5,6] ⟨rfl,m,_,op,hm,hC,rfl,.inl rfl⟩
theorem c_el10 (G : Gd c.l fs f h m C op) (x y n : Int) (ty : List El_vt) (hx : U32 x) (g : El_fld) (v : El_vt) (sk : Int) (p r : List El_vt) (w : El_fld) (e : Int) (he : ¬ e = 0)
    (hcm : ∀ C',SpecD S 119 [.ptr 6 0,.int .u32 y,.int .i64 3] (ckK c ⟨64273,x,y,n,ty⟩ lo se re m C' op (fs ++ [f])) (cmpV sk p r [w]) (ckK c ⟨64273,x,y,n,ty⟩ lo se re m C' op (fs ++ [f])))
    (hfl : ∀ C',SpecD S 122 [.ptr 6 0,.agg (enc_fld g)] (ckK c ⟨64273,x,y,n,ty⟩ lo se re m C' op (fs ++ [f])) (.int .i64 0) (ckK c ⟨64273,x,y,n,ty⟩ lo se re m C' op (fs ++ [f])))
    (hsg : ∀ C',SpecD S 124 [.ptr 6 0,.agg (enc_fld g)] (ckK c ⟨64273,x,y,n,ty⟩ lo se re m C' op (fs ++ [f])) (.int .i64 e) (ckK c ⟨64273,x,y,n,ty⟩ lo se re m C' op (fs ++ [f])))
    : Spec S 125 [.ptr 6 0,.agg (enc_fld g),.agg (enc_vt v)] (ckK c ⟨64273,x,y,n,ty⟩ lo se re m C op (fs ++ [f])) (okK c ⟨64273,x,y,n,ty⟩ lo se re (fs ++ [f]) (.int .i64 e) (op.take m)) := by
 have hsf := fun C' => c_self (c := c) (i := ⟨64273,x,y,n,ty⟩) (lo := lo) (se := se) (re := re) (op := op) (fr := fs ++ [f]) (m := m) (C := C') true hx;have hn := c_num 1;have hC := G.hC;have hm := G.hm;have he2 : (e == 0) = false := by simpa using he
 refine okK_of rfl (fun _ _ => rfl) ?_;generalize fs ++ [f] = fr at *;clear G;try simp only
 have hcc := hcm C;have hff := hfl C;have hgg := hsg C;have hss := hsf C;cases C;all_goals try exact absurd rfl hC
 all_goals
  refine specE ok sh125 rfl ?_;(conv=>whnf);refine cQ [] hn ?_;(conv=>whnf);try (refine ⟨by trivial,?_⟩;conv=>whnf)
  refine cQ [0,1,2,3,4,5,6] hss ?_;(conv=>whnf);try (refine ⟨by trivial,?_⟩;conv=>whnf)
  try (refine ⟨by trivial,?_⟩;conv=>whnf)
  try (refine ⟨by trivial,?_⟩;conv=>whnf)
  try (refine ⟨by trivial,?_⟩;conv=>whnf)
  refine cQ [0,1,2,3,4,5,6] hcc ?_;(conv=>whnf);try (refine ⟨by trivial,?_⟩;conv=>whnf)
  try (refine ⟨by trivial,?_⟩;conv=>whnf)
  refine cQ [0,1,2,3,4,5,6] hff ?_;(conv=>whnf);refine cQ [0,1,2,3,4,5,6] hgg ?_;(conv=>whnf);simp only [bne,he2];(conv=>whnf);exact eQ [0,1,2,3,4,5,6] ⟨rfl,m,_,op,hm,hC,rfl,.inl rfl⟩
theorem c_el11 (G : Gd c.l fs f h m C op) (x y n : Int) (ty : List El_vt) (hx : U32 x) (g : El_fld) (v : El_vt) (sk : Int) (p r : List El_vt) (w : El_fld) (hval : valB c.l (tyF w) (tyF g) = false)
    (hcm : ∀ C',SpecD S 119 [.ptr 6 0,.int .u32 y,.int .i64 3] (ckK c ⟨64273,x,y,n,ty⟩ lo se re m C' op (fs ++ [f])) (cmpV sk p r [w]) (ckK c ⟨64273,x,y,n,ty⟩ lo se re m C' op (fs ++ [f])))
    (hfl : ∀ C',SpecD S 122 [.ptr 6 0,.agg (enc_fld g)] (ckK c ⟨64273,x,y,n,ty⟩ lo se re m C' op (fs ++ [f])) (.int .i64 0) (ckK c ⟨64273,x,y,n,ty⟩ lo se re m C' op (fs ++ [f])))
    (hsg : ∀ C',SpecD S 124 [.ptr 6 0,.agg (enc_fld g)] (ckK c ⟨64273,x,y,n,ty⟩ lo se re m C' op (fs ++ [f])) (.int .i64 0) (ckK c ⟨64273,x,y,n,ty⟩ lo se re m C' op (fs ++ [f])))
    : Spec S 125 [.ptr 6 0,.agg (enc_fld g),.agg (enc_vt v)] (ckK c ⟨64273,x,y,n,ty⟩ lo se re m C op (fs ++ [f])) (okK c ⟨64273,x,y,n,ty⟩ lo se re (fs ++ [f]) (.int .i64 131) (op.take m)) := by
 have hsf := fun C' => c_self (c := c) (i := ⟨64273,x,y,n,ty⟩) (lo := lo) (se := se) (re := re) (op := op) (fr := fs ++ [f]) (m := m) (C := C') true hx;have hn := c_num 1;have hC := G.hC;have hm := G.hm;have hv := c_Val c.l G.hl G.hg (tyF w) (tyF g);rw [hval] at hv;refine okK_of rfl (fun _ _ => rfl) ?_;generalize fs ++ [f] = fr at *;clear G;try simp only
 have hcc := hcm C;have hff := hfl C;have hgg := hsg C;have hss := hsf C;cases C;all_goals try exact absurd rfl hC
 all_goals
  refine specE ok sh125 rfl ?_;(conv=>whnf);refine cQ [] hn ?_;(conv=>whnf);try (refine ⟨by trivial,?_⟩;conv=>whnf)
  refine cQ [0,1,2,3,4,5,6] hss ?_;(conv=>whnf);try (refine ⟨by trivial,?_⟩;conv=>whnf)
  try (refine ⟨by trivial,?_⟩;conv=>whnf)
  try (refine ⟨by trivial,?_⟩;conv=>whnf)
  try (refine ⟨by trivial,?_⟩;conv=>whnf)
  refine cQ [0,1,2,3,4,5,6] hcc ?_;(conv=>whnf);try (refine ⟨by trivial,?_⟩;conv=>whnf)
  try (refine ⟨by trivial,?_⟩;conv=>whnf)
  refine cQ [0,1,2,3,4,5,6] hff ?_;(conv=>whnf);refine cQ [0,1,2,3,4,5,6] hgg ?_;(conv=>whnf);refine ⟨rfl,by decide,by show (0 : Int) < (([w] : List El_fld).length : Nat); simp,?_⟩;(conv=>whnf);refine ⟨by show 0 < ([w] : List El_fld).length; simp,by decide,?_⟩;(conv=>whnf);refine cQ [] hv ?_;(conv=>whnf);exact eQ [0,1,2,3,4,5,6] ⟨rfl,m,_,op,hm,hC,rfl,.inl rfl⟩
theorem c_el12 (G : Gd c.l fs f h m C op) (x y n : Int) (ty : List El_vt) (hx : U32 x) (g : El_fld) (v : El_vt) (sk : Int) (p r : List El_vt) (w : El_fld) (hy : U32 y) (hval : valB c.l (tyF w) (tyF g) = true)
    (hcm : ∀ C',SpecD S 119 [.ptr 6 0,.int .u32 y,.int .i64 3] (ckK c ⟨64273,x,y,n,ty⟩ lo se re m C' op (fs ++ [f])) (cmpV sk p r [w]) (ckK c ⟨64273,x,y,n,ty⟩ lo se re m C' op (fs ++ [f])))
    (hfl : ∀ C',SpecD S 122 [.ptr 6 0,.agg (enc_fld g)] (ckK c ⟨64273,x,y,n,ty⟩ lo se re m C' op (fs ++ [f])) (.int .i64 0) (ckK c ⟨64273,x,y,n,ty⟩ lo se re m C' op (fs ++ [f])))
    (hsg : ∀ C',SpecD S 124 [.ptr 6 0,.agg (enc_fld g)] (ckK c ⟨64273,x,y,n,ty⟩ lo se re m C' op (fs ++ [f])) (.int .i64 0) (ckK c ⟨64273,x,y,n,ty⟩ lo se re m C' op (fs ++ [f])))
    : Spec S 125 [.ptr 6 0,.agg (enc_fld g),.agg (enc_vt v)] (ckK c ⟨64273,x,y,n,ty⟩ lo se re m C op (fs ++ [f])) (okK c ⟨64273,x,y,n,ty⟩ lo se re (fs ++ [f]) (.int .i64 (swapL c.l h f.dead (op.take m) [⟨5,true,x⟩,⟨1,false,0⟩,⟨5,true,y⟩,⟨1,false,0⟩,⟨1,false,0⟩] []).1) (swapL c.l h f.dead (op.take m) [⟨5,true,x⟩,⟨1,false,0⟩,⟨5,true,y⟩,⟨1,false,0⟩,⟨1,false,0⟩] []).2) := by
 have hsf := fun C' => c_self (c := c) (i := ⟨64273,x,y,n,ty⟩) (lo := lo) (se := se) (re := re) (op := op) (fr := fs ++ [f]) (m := m) (C := C') true hx;have hn := c_num 1;have hC := G.hC;have hm := G.hm;have hv := c_Val c.l G.hl G.hg (tyF w) (tyF g);rw [hval] at hv;have hw : IntKind.i64.wrap y = y := wrap_i64 (by have := hy.1; omega) (by have := hy.2; omega);have hr := c_ref true y;have hp := c_swpNO (i := ⟨64273,x,y,n,ty⟩) (lo := lo) (se := se) (re := re) G [⟨5,true,x⟩,⟨1,false,0⟩,⟨5,true,y⟩,⟨1,false,0⟩,⟨1,false,0⟩] 5 .full (by simp) (by simp)
 change Spec S _ _ _ (swR _ _ _ _ _ _ (swapL c.l h f.dead (op.take m) [⟨5,true,x⟩,⟨1,false,0⟩,⟨5,true,y⟩,⟨1,false,0⟩,⟨1,false,0⟩] []) _) at hp
 generalize swapL c.l h f.dead (op.take m) [⟨5,true,x⟩,⟨1,false,0⟩,⟨5,true,y⟩,⟨1,false,0⟩,⟨1,false,0⟩] [] = P at *;obtain ⟨e,o'⟩ := P;generalize fs ++ [f] = fr at *;clear G;try simp only
 have hcc := hcm C;have hff := hfl C;have hgg := hsg C;have hss := hsf C;cases C;all_goals try exact absurd rfl hC
 all_goals
  refine specE ok sh125 rfl ?_;(conv=>whnf);refine cQ [] hn ?_;(conv=>whnf);try (refine ⟨by trivial,?_⟩;conv=>whnf)
  refine cQ [0,1,2,3,4,5,6] hss ?_;(conv=>whnf);try (refine ⟨by trivial,?_⟩;conv=>whnf)
  try (refine ⟨by trivial,?_⟩;conv=>whnf)
  try (refine ⟨by trivial,?_⟩;conv=>whnf)
  try (refine ⟨by trivial,?_⟩;conv=>whnf)
  refine cQ [0,1,2,3,4,5,6] hcc ?_;(conv=>whnf);try (refine ⟨by trivial,?_⟩;conv=>whnf)
  try (refine ⟨by trivial,?_⟩;conv=>whnf)
  refine cQ [0,1,2,3,4,5,6] hff ?_;(conv=>whnf);refine cQ [0,1,2,3,4,5,6] hgg ?_;(conv=>whnf);refine ⟨rfl,by decide,by show (0 : Int) < (([w] : List El_fld).length : Nat); simp,?_⟩;(conv=>whnf);refine ⟨by show 0 < ([w] : List El_fld).length; simp,by decide,?_⟩;(conv=>whnf);refine cQ [] hv ?_;(conv=>whnf);rw [hw];refine cQ [] hr ?_;(conv=>whnf);try (refine ⟨by trivial,?_⟩;conv=>whnf)
  try (refine ⟨by trivial,?_⟩;conv=>whnf)
  refine rQ [0,1,2,3,4,5,6,13] hp ?_;rintro r H' ⟨rfl,m2,C2,op2,hm2',hC2,ho2,rfl⟩;cases C2;all_goals try exact absurd rfl hC2
  all_goals
   (conv=>whnf);exact eQ [0,1,2,3,4,5,6,14] ⟨rfl,m2,_,op2,hm2',hC2,ho2,rfl⟩
end Ck
end Sh
end Go.Proofs.YtomdfaelgcefdaaGreatDoor
