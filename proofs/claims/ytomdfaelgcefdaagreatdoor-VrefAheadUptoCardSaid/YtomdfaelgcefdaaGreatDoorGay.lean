/- CkS. -/
import Derived.Test.YtomdfaelgcefdaaGreatDoorGax
set_option maxRecDepth 100000
set_option maxHeartbeats 64000000
namespace Go.Proofs.YtomdfaelgcefdaaGreatDoor
open Go
namespace Sh
namespace Ck
variable {c : Cx} {i : In} {lo : List El_vt} {se : List Bool} {re : List El_vt} {op : List El_vt} {fr fs : List El_frame} {f : El_frame} {h m : Nat} {C : Cp}
theorem one_of {g : List El_fld} (h : g.length = 1) : ∃ w,g = [w] := by
 match g,h with
 | [w],_ => exact ⟨w,rfl⟩
theorem c_elements (G : Gd c.l fs f h m C op) (o x y n : Int) (ty : List El_vt) (hx : U32 x) (hy : U32 y) (g : El_fld) (v : El_vt) :
    Spec S 125 [.ptr 6 0,.agg (enc_fld g),.agg (enc_vt v)] (ckK c ⟨o,x,y,n,ty⟩ lo se re m C op (fs ++ [f])) (okK c ⟨o,x,y,n,ty⟩ lo se re (fs ++ [f]) (.int .i64 (elemF c ⟨o,x,y,n,ty⟩ h f.dead (op.take m) g v).1) (elemF c ⟨o,x,y,n,ty⟩ h f.dead (op.take m) g v).2) := by
 have hcm := fun C' => c_comp (c := c) (i := ⟨o,x,y,n,ty⟩) (lo := lo) (se := se) (re := re) (op := op) (fr := fs ++ [f]) (m := m) (C := C') G.hl G.hg y 3 hy;have hfl := fun C' => c_field (c := c) (i := ⟨o,x,y,n,ty⟩) (lo := lo) (se := se) (re := re) (op := op) (fr := fs ++ [f]) (m := m) (C := C') g;have hsg := fun C' => c_segment (c := c) (i := ⟨o,x,y,n,ty⟩) (lo := lo) (se := se) (re := re) (op := op) (fr := fs ++ [f]) (m := m) (C := C') G.hl G.hg hy g;unfold elemF;simp only at hfl hsg ⊢
 by_cases h73 : o = 64273
 · subst h73;generalize fldF 64273 g = e1 at *;generalize segF c ⟨64273,x,y,n,ty⟩ g = e2 at *
   rcases cmpF_cases G.hg y 3 with ⟨e,he,hq⟩ | ⟨s,hs,hq,h1⟩
   · rw [hq] at hcm ⊢;simp only [he,not_false_eq_true,and_self,if_true];exact c_el8 G x y n ty hx g v e he hcm
   · rw [hq] at hcm ⊢;have h1 := h1 rfl;obtain ⟨fi,sa,sk,sp,sr,sf⟩ := s;obtain ⟨⟨a,ha0,hal,hag⟩,hk,⟨p,hp0,hpl,hpg⟩,⟨r,hr0,hrl,hrg⟩,⟨g2,hf0,hfl2,hfg⟩⟩ := hs;simp only at ha0 hk hp0 hr0 hf0;subst ha0 hp0 hr0 hf0;simp only [Option.getD_some] at h1;obtain ⟨w,rfl⟩ := one_of h1;simp only [not_true_eq_false,and_false,if_false,Option.getD_some,List.getD_cons_zero]
     by_cases he1 : e1 = 0
     · subst he1
       by_cases he2 : e2 = 0
       · subst he2;simp only [if_true];rw [if_neg (by decide),if_neg (by decide)]
         cases hv : valB c.l (tyF w) (tyF g) with
         | false => simp only [Bool.false_eq_true,if_false]; exact c_el11 G x y n ty hx g v sk p r w hv hcm hfl hsg
         | true => simp only [if_true]; exact c_el12 G x y n ty hx g v sk p r w hy hv hcm hfl hsg
       · simp only [if_true,if_neg he2];exact c_el10 G x y n ty hx g v sk p r w e2 he2 hcm hfl hsg
     · simp only [if_neg he1];exact c_el9 G x y n ty hx g v sk p r w e1 he1 hcm hfl
 · rw [if_neg (fun h => h73 h.1)];generalize hq1 : fldF o g = e1 at *;generalize hq2 : segF c ⟨o,x,y,n,ty⟩ g = e2 at *
   by_cases he1 : e1 = 0
   · subst he1;rw [if_pos rfl]
     by_cases he2 : e2 = 0
     · subst he2;rw [if_pos rfl]
       by_cases h0 : o = 64270
       · subst h0; rw [if_pos rfl]; exact c_el3 G x y n ty hx g v hfl hsg
       · rw [if_neg h0]
         by_cases h2 : o = 64272
         · subst h2; rw [if_pos rfl]; exact c_el4 G x y n ty hx g v hfl hsg
         · rw [if_neg h2,if_neg h73]
           by_cases h4 : o = 64274
           · subst h4; rw [if_pos (.inl rfl)]; exact c_el5 G x y n ty hx g v hfl hsg
           · by_cases h5 : o = 64275
             · subst h5; rw [if_pos (.inr rfl)]; exact c_el6 G x y n ty hx g v hfl hsg
             · rw [if_neg (fun h => h.elim h4 h5)];exact c_el7 G o x y n ty hx g v h0 h2 h73 h4 h5 hfl hsg
     · rw [if_neg he2];exact c_el2 G o x y n ty hx g v h73 e2 he2 hfl hsg
   · rw [if_neg he1];exact c_el1 G o x y n ty hx g v h73 e1 he1 hfl
noncomputable def arrF (c : Cx) (i : In) (h : Nat) (d : Bool) (ops : List El_vt) : Int × List El_vt :=
 if (cmpF c.l i.x 3).2 = 0 then
  (if i.op = 64262 then swapL c.l h d ops [uqF (((cmpF c.l i.x 3).1.fields.getD []).getD 0 (zeroT .fld)),⟨1,false,0⟩] [⟨5,false,i.x⟩]
  else if i.op = 64263 then (if dfl (tyF (((cmpF c.l i.x 3).1.fields.getD []).getD 0 (zeroT .fld))) = true then swapL c.l h d ops [⟨1,false,0⟩] [⟨5,false,i.x⟩] else (163,ops))
  else if i.op = 64264 then (if 10000 < i.n then (2,ops) else swapL c.l h d ops (List.replicate i.n.toNat (uqF (((cmpF c.l i.x 3).1.fields.getD []).getD 0 (zeroT .fld)))) [⟨5,false,i.x⟩])
  else if i.op = 64265 ∨ i.op = 64266 then (if segF c i (((cmpF c.l i.x 3).1.fields.getD []).getD 0 (zeroT .fld)) = 0 then swapL c.l h d ops [⟨1,false,0⟩,⟨1,false,0⟩] [⟨5,false,i.x⟩] else (segF c i (((cmpF c.l i.x 3).1.fields.getD []).getD 0 (zeroT .fld)),ops))
  else elemF c i h d ops (((cmpF c.l i.x 3).1.fields.getD []).getD 0 (zeroT .fld)) (uqF (((cmpF c.l i.x 3).1.fields.getD []).getD 0 (zeroT .fld))))
 else ((cmpF c.l i.x 3).2,ops)
theorem c_ar0 (G : Gd c.l fs f h m C op) (o x y n : Int) (ty : List El_vt) (hx : U32 x) (e : Int) (he : ¬ e = 0)
    (hcm : ∀ C',SpecD S 119 [.ptr 6 0,.int .u32 x,.int .i64 3] (ckK c ⟨o,x,y,n,ty⟩ lo se re m C' op (fs ++ [f])) (.tup [.agg [.int .i64 0,.nils,.nils,.nils],.int .i64 e]) (ckK c ⟨o,x,y,n,ty⟩ lo se re m C' op (fs ++ [f])))
    : Spec S 75 [.ptr 6 0] (ckK c ⟨o,x,y,n,ty⟩ lo se re m C op (fs ++ [f])) (okK c ⟨o,x,y,n,ty⟩ lo se re (fs ++ [f]) (.int .i64 e) (op.take m)) := by
 have hsf := fun C' => c_self (c := c) (i := ⟨o,x,y,n,ty⟩) (lo := lo) (se := se) (re := re) (op := op) (fr := fs ++ [f]) (m := m) (C := C') false hx;have hn := c_num 1;have hC := G.hC;have hm := G.hm;have he2 : (e == 0) = false := by simpa using he
 refine okK_of rfl (fun _ _ => rfl) ?_;generalize fs ++ [f] = fr at *;clear G;try simp only
 have hcc := hcm C;have hss := hsf C;cases C;all_goals try exact absurd rfl hC
 all_goals
  refine specE ok sh75 rfl ?_;(conv=>whnf);refine cQ [] hn ?_;(conv=>whnf);try (refine ⟨by trivial,?_⟩;conv=>whnf)
  try (refine ⟨by trivial,?_⟩;conv=>whnf)
  refine cQ [0,1,2,3,4,5,6] hcc ?_;(conv=>whnf);simp only [bne,he2];(conv=>whnf);exact eQ [0,1,2,3,4,5,6] ⟨rfl,m,_,op,hm,hC,rfl,.inl rfl⟩
theorem c_ar1 (G : Gd c.l fs f h m C op) (x y n : Int) (ty : List El_vt) (hx : U32 x) (sk : Int) (p r : List El_vt) (w : El_fld)
    (hcm : ∀ C',SpecD S 119 [.ptr 6 0,.int .u32 x,.int .i64 3] (ckK c ⟨64262,x,y,n,ty⟩ lo se re m C' op (fs ++ [f])) (cmpV sk p r [w]) (ckK c ⟨64262,x,y,n,ty⟩ lo se re m C' op (fs ++ [f])))
    : Spec S 75 [.ptr 6 0] (ckK c ⟨64262,x,y,n,ty⟩ lo se re m C op (fs ++ [f])) (okK c ⟨64262,x,y,n,ty⟩ lo se re (fs ++ [f]) (.int .i64 (swapL c.l h f.dead (op.take m) [uqF w,⟨1,false,0⟩] [⟨5,false,x⟩]).1) (swapL c.l h f.dead (op.take m) [uqF w,⟨1,false,0⟩] [⟨5,false,x⟩]).2) := by
 have hsf := fun C' => c_self (c := c) (i := ⟨64262,x,y,n,ty⟩) (lo := lo) (se := se) (re := re) (op := op) (fr := fs ++ [f]) (m := m) (C := C') false hx;have hn := c_num 1;have hC := G.hC;have hm := G.hm;have hp := c_swpOO (i := ⟨64262,x,y,n,ty⟩) (lo := lo) (se := se) (re := re) G [⟨5,false,x⟩] [uqF w,⟨1,false,0⟩] 1 2 .full .full (by simp) (by simp) (by simp) (by simp)
 change Spec S _ _ _ (swR _ _ _ _ _ _ (swapL c.l h f.dead (op.take m) [uqF w,⟨1,false,0⟩] [⟨5,false,x⟩]) _) at hp
 generalize swapL c.l h f.dead (op.take m) [uqF w,⟨1,false,0⟩] [⟨5,false,x⟩] = P at *;obtain ⟨e,o'⟩ := P;generalize fs ++ [f] = fr at *;clear G;try simp only
 have hu := c_Unpack (tyF w)
 change SpecD S _ _ _ (.agg (enc_vt (uqF w))) _ at hu
 have hcc := hcm C;have hss := hsf C;cases C;all_goals try exact absurd rfl hC
 all_goals
  refine specE ok sh75 rfl ?_;(conv=>whnf);refine cQ [] hn ?_;(conv=>whnf);try (refine ⟨by trivial,?_⟩;conv=>whnf)
  try (refine ⟨by trivial,?_⟩;conv=>whnf)
  refine cQ [0,1,2,3,4,5,6] hcc ?_;(conv=>whnf);refine ⟨rfl,by decide,by show (0 : Int) < (([w] : List El_fld).length : Nat); simp,?_⟩;(conv=>whnf);refine ⟨by show 0 < ([w] : List El_fld).length; simp,by decide,?_⟩;(conv=>whnf);try (refine ⟨by trivial,?_⟩;conv=>whnf)
  try (refine ⟨by trivial,?_⟩;conv=>whnf)
  refine cQ [] hu ?_;(conv=>whnf);try (refine ⟨by trivial,?_⟩;conv=>whnf)
  try (refine ⟨by trivial,?_⟩;conv=>whnf)
  refine cQ [0,1,2,3,4,5,6] hss ?_;(conv=>whnf);try (refine ⟨by trivial,?_⟩;conv=>whnf)
  try (refine ⟨by trivial,?_⟩;conv=>whnf)
  try (refine ⟨by trivial,?_⟩;conv=>whnf)
  refine rQ [0,1,2,3,4,5,6,11,12] hp ?_;rintro r H' ⟨rfl,m2,C2,op2,hm2',hC2,ho2,rfl⟩;cases C2;all_goals try exact absurd rfl hC2
  all_goals
   (conv=>whnf);exact eQ [0,1,2,3,4,5,6,13] ⟨rfl,m2,_,op2,hm2',hC2,ho2,rfl⟩
theorem c_ar2 (G : Gd c.l fs f h m C op) (x y n : Int) (ty : List El_vt) (hx : U32 x) (sk : Int) (p r : List El_vt) (w : El_fld) (hdf : dfl (tyF w) = false)
    (hcm : ∀ C',SpecD S 119 [.ptr 6 0,.int .u32 x,.int .i64 3] (ckK c ⟨64263,x,y,n,ty⟩ lo se re m C' op (fs ++ [f])) (cmpV sk p r [w]) (ckK c ⟨64263,x,y,n,ty⟩ lo se re m C' op (fs ++ [f])))
    : Spec S 75 [.ptr 6 0] (ckK c ⟨64263,x,y,n,ty⟩ lo se re m C op (fs ++ [f])) (okK c ⟨64263,x,y,n,ty⟩ lo se re (fs ++ [f]) (.int .i64 163) (op.take m)) := by
 have hsf := fun C' => c_self (c := c) (i := ⟨64263,x,y,n,ty⟩) (lo := lo) (se := se) (re := re) (op := op) (fr := fs ++ [f]) (m := m) (C := C') false hx;have hn := c_num 1;have hC := G.hC;have hm := G.hm;have hd := c_dflT (tyF w);rw [hdf] at hd;refine okK_of rfl (fun _ _ => rfl) ?_;generalize fs ++ [f] = fr at *;clear G;try simp only
 have hu := c_Unpack (tyF w)
 change SpecD S _ _ _ (.agg (enc_vt (uqF w))) _ at hu
 have hcc := hcm C;have hss := hsf C;cases C;all_goals try exact absurd rfl hC
 all_goals
  refine specE ok sh75 rfl ?_;(conv=>whnf);refine cQ [] hn ?_;(conv=>whnf);try (refine ⟨by trivial,?_⟩;conv=>whnf)
  try (refine ⟨by trivial,?_⟩;conv=>whnf)
  refine cQ [0,1,2,3,4,5,6] hcc ?_;(conv=>whnf);refine ⟨rfl,by decide,by show (0 : Int) < (([w] : List El_fld).length : Nat); simp,?_⟩;(conv=>whnf);refine ⟨by show 0 < ([w] : List El_fld).length; simp,by decide,?_⟩;(conv=>whnf);try (refine ⟨by trivial,?_⟩;conv=>whnf)
  try (refine ⟨by trivial,?_⟩;conv=>whnf)
  refine cQ [] hu ?_;(conv=>whnf);try (refine ⟨by trivial,?_⟩;conv=>whnf)
  try (refine ⟨by trivial,?_⟩;conv=>whnf)
  refine cQ [0,1,2,3,4,5,6] hss ?_;(conv=>whnf);try (refine ⟨by trivial,?_⟩;conv=>whnf)
  refine cQ [] hd ?_;(conv=>whnf);exact eQ [0,1,2,3,4,5,6] ⟨rfl,m,_,op,hm,hC,rfl,.inl rfl⟩
theorem c_ar3 (G : Gd c.l fs f h m C op) (x y n : Int) (ty : List El_vt) (hx : U32 x) (sk : Int) (p r : List El_vt) (w : El_fld) (hdf : dfl (tyF w) = true)
    (hcm : ∀ C',SpecD S 119 [.ptr 6 0,.int .u32 x,.int .i64 3] (ckK c ⟨64263,x,y,n,ty⟩ lo se re m C' op (fs ++ [f])) (cmpV sk p r [w]) (ckK c ⟨64263,x,y,n,ty⟩ lo se re m C' op (fs ++ [f])))
    : Spec S 75 [.ptr 6 0] (ckK c ⟨64263,x,y,n,ty⟩ lo se re m C op (fs ++ [f])) (okK c ⟨64263,x,y,n,ty⟩ lo se re (fs ++ [f]) (.int .i64 (swapL c.l h f.dead (op.take m) [⟨1,false,0⟩] [⟨5,false,x⟩]).1) (swapL c.l h f.dead (op.take m) [⟨1,false,0⟩] [⟨5,false,x⟩]).2) := by
 have hsf := fun C' => c_self (c := c) (i := ⟨64263,x,y,n,ty⟩) (lo := lo) (se := se) (re := re) (op := op) (fr := fs ++ [f]) (m := m) (C := C') false hx;have hn := c_num 1;have hC := G.hC;have hm := G.hm;have hd := c_dflT (tyF w);rw [hdf] at hd;have hp := c_swpOO (i := ⟨64263,x,y,n,ty⟩) (lo := lo) (se := se) (re := re) G [⟨5,false,x⟩] [⟨1,false,0⟩] 1 1 .full .full (by simp) (by simp) (by simp) (by simp)
 change Spec S _ _ _ (swR _ _ _ _ _ _ (swapL c.l h f.dead (op.take m) [⟨1,false,0⟩] [⟨5,false,x⟩]) _) at hp
 generalize swapL c.l h f.dead (op.take m) [⟨1,false,0⟩] [⟨5,false,x⟩] = P at *;obtain ⟨e,o'⟩ := P;generalize fs ++ [f] = fr at *;clear G;try simp only
 have hu := c_Unpack (tyF w)
 change SpecD S _ _ _ (.agg (enc_vt (uqF w))) _ at hu
 have hcc := hcm C;have hss := hsf C;cases C;all_goals try exact absurd rfl hC
 all_goals
  refine specE ok sh75 rfl ?_;(conv=>whnf);refine cQ [] hn ?_;(conv=>whnf);try (refine ⟨by trivial,?_⟩;conv=>whnf)
  try (refine ⟨by trivial,?_⟩;conv=>whnf)
  refine cQ [0,1,2,3,4,5,6] hcc ?_;(conv=>whnf);refine ⟨rfl,by decide,by show (0 : Int) < (([w] : List El_fld).length : Nat); simp,?_⟩;(conv=>whnf);refine ⟨by show 0 < ([w] : List El_fld).length; simp,by decide,?_⟩;(conv=>whnf);try (refine ⟨by trivial,?_⟩;conv=>whnf)
  try (refine ⟨by trivial,?_⟩;conv=>whnf)
  refine cQ [] hu ?_;(conv=>whnf);try (refine ⟨by trivial,?_⟩;conv=>whnf)
  try (refine ⟨by trivial,?_⟩;conv=>whnf)
  refine cQ [0,1,2,3,4,5,6] hss ?_;(conv=>whnf);try (refine ⟨by trivial,?_⟩;conv=>whnf)
  refine cQ [] hd ?_;(conv=>whnf);try (refine ⟨by trivial,?_⟩;conv=>whnf)
  try (refine ⟨by trivial,?_⟩;conv=>whnf)
  refine rQ [0,1,2,3,4,5,6,11,12] hp ?_;rintro r H' ⟨rfl,m2,C2,op2,hm2',hC2,ho2,rfl⟩;cases C2;all_goals try exact absurd rfl hC2
  all_goals
   (conv=>whnf);exact eQ [0,1,2,3,4,5,6,13] ⟨rfl,m2,_,op2,hm2',hC2,ho2,rfl⟩
theorem c_ar4 (G : Gd c.l fs f h m C op) (x y n : Int) (ty : List El_vt) (hx : U32 x) (sk : Int) (p r : List El_vt) (w : El_fld) (hbig : 10000 < n)
    (hcm : ∀ C',SpecD S 119 [.ptr 6 0,.int .u32 x,.int .i64 3] (ckK c ⟨64264,x,y,n,ty⟩ lo se re m C' op (fs ++ [f])) (cmpV sk p r [w]) (ckK c ⟨64264,x,y,n,ty⟩ lo se re m C' op (fs ++ [f])))
    : Spec S 75 [.ptr 6 0] (ckK c ⟨64264,x,y,n,ty⟩ lo se re m C op (fs ++ [f])) (okK c ⟨64264,x,y,n,ty⟩ lo se re (fs ++ [f]) (.int .i64 2) (op.take m)) := by
 have hsf := fun C' => c_self (c := c) (i := ⟨64264,x,y,n,ty⟩) (lo := lo) (se := se) (re := re) (op := op) (fr := fs ++ [f]) (m := m) (C := C') false hx;have hn := c_num 1;have hC := G.hC;have hm := G.hm;have hb : decide (10000 < n) = true := decide_eq_true hbig;refine okK_of rfl (fun _ _ => rfl) ?_;generalize fs ++ [f] = fr at *;clear G;try simp only
 have hu := c_Unpack (tyF w)
 change SpecD S _ _ _ (.agg (enc_vt (uqF w))) _ at hu
 have hcc := hcm C;have hss := hsf C;cases C;all_goals try exact absurd rfl hC
 all_goals
  refine specE ok sh75 rfl ?_;(conv=>whnf);refine cQ [] hn ?_;(conv=>whnf);try (refine ⟨by trivial,?_⟩;conv=>whnf)
  try (refine ⟨by trivial,?_⟩;conv=>whnf)
  refine cQ [0,1,2,3,4,5,6] hcc ?_;(conv=>whnf);refine ⟨rfl,by decide,by show (0 : Int) < (([w] : List El_fld).length : Nat); simp,?_⟩;(conv=>whnf);refine ⟨by show 0 < ([w] : List El_fld).length; simp,by decide,?_⟩;(conv=>whnf);try (refine ⟨by trivial,?_⟩;conv=>whnf)
  try (refine ⟨by trivial,?_⟩;conv=>whnf)
  refine cQ [] hu ?_;(conv=>whnf);try (refine ⟨by trivial,?_⟩;conv=>whnf)
  try (refine ⟨by trivial,?_⟩;conv=>whnf)
  refine cQ [0,1,2,3,4,5,6] hss ?_;(conv=>whnf);try (refine ⟨by trivial,?_⟩;conv=>whnf)
  simp only [hb];(conv=>whnf);exact eQ [0,1,2,3,4,5,6] ⟨rfl,m,_,op,hm,hC,rfl,.inl rfl⟩
theorem c_ar5 (G : Gd c.l fs f h m C op) (x y n : Int) (ty : List El_vt) (hx : U32 x) (sk : Int) (p r : List El_vt) (w : El_fld) (hbig : ¬ 10000 < n) (hn0 : 0 ≤ n)
    (hcm : ∀ C',SpecD S 119 [.ptr 6 0,.int .u32 x,.int .i64 3] (ckK c ⟨64264,x,y,n,ty⟩ lo se re m C' op (fs ++ [f])) (cmpV sk p r [w]) (ckK c ⟨64264,x,y,n,ty⟩ lo se re m C' op (fs ++ [f])))
    : Spec S 75 [.ptr 6 0] (ckK c ⟨64264,x,y,n,ty⟩ lo se re m C op (fs ++ [f])) (okK c ⟨64264,x,y,n,ty⟩ lo se re (fs ++ [f]) (.int .i64 (swapL c.l h f.dead (op.take m) (List.replicate n.toNat (uqF w)) [⟨5,false,x⟩]).1) (swapL c.l h f.dead (op.take m) (List.replicate n.toNat (uqF w)) [⟨5,false,x⟩]).2) := by
 have hsf := fun C' => c_self (c := c) (i := ⟨64264,x,y,n,ty⟩) (lo := lo) (se := se) (re := re) (op := op) (fr := fs ++ [f]) (m := m) (C := C') false hx;have hn := c_num 1;have hC := G.hC;have hm := G.hm;have hb : decide (10000 < n) = false := decide_eq_false hbig;have hw : IntKind.i64.wrap n = (n.toNat : Int) := by rw [wrap_i64 (by omega) (by omega)]; omega
 have hu0 : uqF w = unpF (tyF w) := rfl;have hu := c_Unpack (tyF w);rw [← hu0] at hu;clear hu0;generalize uqF w = u at *;have hrp := c_Repeat u n.toNat (by omega);have hp := c_swpOO (i := ⟨64264,x,y,n,ty⟩) (lo := lo) (se := se) (re := re) G [⟨5,false,x⟩] (List.replicate n.toNat u) 1 n.toNat .full .whole (by simp) (by simp) (by omega) (by simp);rw [show (List.replicate n.toNat u).take n.toNat = List.replicate n.toNat u by simp] at hp
 change Spec S _ _ _ (swR _ _ _ _ _ _ (swapL c.l h f.dead (op.take m) (List.replicate n.toNat u) [⟨5,false,x⟩]) _) at hp
 generalize swapL c.l h f.dead (op.take m) (List.replicate n.toNat u) [⟨5,false,x⟩] = P at *;obtain ⟨e,o'⟩ := P;generalize fs ++ [f] = fr at *;clear G;try simp only
 have hcc := hcm C;have hss := hsf C;cases C;all_goals try exact absurd rfl hC
 all_goals
  refine specE ok sh75 rfl ?_;(conv=>whnf);refine cQ [] hn ?_;(conv=>whnf);try (refine ⟨by trivial,?_⟩;conv=>whnf)
  try (refine ⟨by trivial,?_⟩;conv=>whnf)
  refine cQ [0,1,2,3,4,5,6] hcc ?_;(conv=>whnf);refine ⟨rfl,by decide,by show (0 : Int) < (([w] : List El_fld).length : Nat); simp,?_⟩;(conv=>whnf);refine ⟨by show 0 < ([w] : List El_fld).length; simp,by decide,?_⟩;(conv=>whnf);try (refine ⟨by trivial,?_⟩;conv=>whnf)
  try (refine ⟨by trivial,?_⟩;conv=>whnf)
  refine cQ [] hu ?_;(conv=>whnf);try (refine ⟨by trivial,?_⟩;conv=>whnf)
  try (refine ⟨by trivial,?_⟩;conv=>whnf)
  refine cQ [0,1,2,3,4,5,6] hss ?_;(conv=>whnf);try (refine ⟨by trivial,?_⟩;conv=>whnf)
  simp only [hb];(conv=>whnf);try (refine ⟨by trivial,?_⟩;conv=>whnf)
  try (refine ⟨by trivial,?_⟩;conv=>whnf)
  rw [hw];refine cQ [12] hrp ?_;(conv=>whnf);try (refine ⟨by trivial,?_⟩;conv=>whnf)
  refine rQ [0,1,2,3,4,5,6,11,13] hp ?_;rintro r H' ⟨rfl,m2,C2,op2,hm2',hC2,ho2,rfl⟩;cases C2;all_goals try exact absurd rfl hC2
  all_goals
   (conv=>whnf);exact eQ [0,1,2,3,4,5,6,14] ⟨rfl,m2,_,op2,hm2',hC2,ho2,rfl⟩
theorem c_ar6 (G : Gd c.l fs f h m C op) (x y n : Int) (ty : List El_vt) (hx : U32 x) (sk : Int) (p r : List El_vt) (w : El_fld) (e : Int) (he : ¬ e = 0)
    (hsg : ∀ C',SpecD S 124 [.ptr 6 0,.agg (enc_fld w)] (ckK c ⟨64265,x,y,n,ty⟩ lo se re m C' op (fs ++ [f])) (.int .i64 e) (ckK c ⟨64265,x,y,n,ty⟩ lo se re m C' op (fs ++ [f])))
    (hcm : ∀ C',SpecD S 119 [.ptr 6 0,.int .u32 x,.int .i64 3] (ckK c ⟨64265,x,y,n,ty⟩ lo se re m C' op (fs ++ [f])) (cmpV sk p r [w]) (ckK c ⟨64265,x,y,n,ty⟩ lo se re m C' op (fs ++ [f])))
    : Spec S 75 [.ptr 6 0] (ckK c ⟨64265,x,y,n,ty⟩ lo se re m C op (fs ++ [f])) (okK c ⟨64265,x,y,n,ty⟩ lo se re (fs ++ [f]) (.int .i64 e) (op.take m)) := by
 have hsf := fun C' => c_self (c := c) (i := ⟨64265,x,y,n,ty⟩) (lo := lo) (se := se) (re := re) (op := op) (fr := fs ++ [f]) (m := m) (C := C') false hx;have hn := c_num 1;have hC := G.hC;have hm := G.hm;have he2 : (e == 0) = false := by simpa using he
 refine okK_of rfl (fun _ _ => rfl) ?_;generalize fs ++ [f] = fr at *;clear G;try simp only
 have hu := c_Unpack (tyF w)
 change SpecD S _ _ _ (.agg (enc_vt (uqF w))) _ at hu
 have hcc := hcm C;have hss := hsf C;have hgg := hsg C;cases C;all_goals try exact absurd rfl hC
 all_goals
  refine specE ok sh75 rfl ?_;(conv=>whnf);refine cQ [] hn ?_;(conv=>whnf);try (refine ⟨by trivial,?_⟩;conv=>whnf)
  try (refine ⟨by trivial,?_⟩;conv=>whnf)
  refine cQ [0,1,2,3,4,5,6] hcc ?_;(conv=>whnf);refine ⟨rfl,by decide,by show (0 : Int) < (([w] : List El_fld).length : Nat); simp,?_⟩;(conv=>whnf);refine ⟨by show 0 < ([w] : List El_fld).length; simp,by decide,?_⟩;(conv=>whnf);try (refine ⟨by trivial,?_⟩;conv=>whnf)
  try (refine ⟨by trivial,?_⟩;conv=>whnf)
  refine cQ [] hu ?_;(conv=>whnf);try (refine ⟨by trivial,?_⟩;conv=>whnf)
  try (refine ⟨by trivial,?_⟩;conv=>whnf)
  refine cQ [0,1,2,3,4,5,6] hss ?_;(conv=>whnf);try (refine ⟨by trivial,?_⟩;conv=>whnf)
  refine cQ [0,1,2,3,4,5,6] hgg ?_;(conv=>whnf);simp only [bne,he2];(conv=>whnf);exact eQ [0,1,2,3,4,5,6] ⟨rfl,m,_,op,hm,hC,rfl,.inl rfl⟩
theorem c_ar7 (G : Gd c.l fs f h m C op) (x y n : Int) (ty : List El_vt) (hx : U32 x) (sk : Int) (p r : List El_vt) (w : El_fld)
    (hsg : ∀ C',SpecD S 124 [.ptr 6 0,.agg (enc_fld w)] (ckK c ⟨64265,x,y,n,ty⟩ lo se re m C' op (fs ++ [f])) (.int .i64 0) (ckK c ⟨64265,x,y,n,ty⟩ lo se re m C' op (fs ++ [f])))
    (hcm : ∀ C',SpecD S 119 [.ptr 6 0,.int .u32 x,.int .i64 3] (ckK c ⟨64265,x,y,n,ty⟩ lo se re m C' op (fs ++ [f])) (cmpV sk p r [w]) (ckK c ⟨64265,x,y,n,ty⟩ lo se re m C' op (fs ++ [f])))
    : Spec S 75 [.ptr 6 0] (ckK c ⟨64265,x,y,n,ty⟩ lo se re m C op (fs ++ [f])) (okK c ⟨64265,x,y,n,ty⟩ lo se re (fs ++ [f]) (.int .i64 (swapL c.l h f.dead (op.take m) [⟨1,false,0⟩,⟨1,false,0⟩] [⟨5,false,x⟩]).1) (swapL c.l h f.dead (op.take m) [⟨1,false,0⟩,⟨1,false,0⟩] [⟨5,false,x⟩]).2) := by
 have hsf := fun C' => c_self (c := c) (i := ⟨64265,x,y,n,ty⟩) (lo := lo) (se := se) (re := re) (op := op) (fr := fs ++ [f]) (m := m) (C := C') false hx;have hn := c_num 1;have hC := G.hC;have hm := G.hm;have hp := c_swpOO (i := ⟨64265,x,y,n,ty⟩) (lo := lo) (se := se) (re := re) G [⟨5,false,x⟩] [⟨1,false,0⟩,⟨1,false,0⟩] 1 2 .full .full (by simp) (by simp) (by simp) (by simp)
 change Spec S _ _ _ (swR _ _ _ _ _ _ (swapL c.l h f.dead (op.take m) [⟨1,false,0⟩,⟨1,false,0⟩] [⟨5,false,x⟩]) _) at hp
 generalize swapL c.l h f.dead (op.take m) [⟨1,false,0⟩,⟨1,false,0⟩] [⟨5,false,x⟩] = P at *;obtain ⟨e,o'⟩ := P;generalize fs ++ [f] = fr at *;clear G;try simp only
 have hu := c_Unpack (tyF w)
 change SpecD S _ _ _ (.agg (enc_vt (uqF w))) _ at hu
 have hcc := hcm C;have hss := hsf C;have hgg := hsg C;cases C;all_goals try exact absurd rfl hC
 all_goals
  refine specE ok sh75 rfl ?_;(conv=>whnf);refine cQ [] hn ?_;(conv=>whnf);try (refine ⟨by trivial,?_⟩;conv=>whnf)
  try (refine ⟨by trivial,?_⟩;conv=>whnf)
  refine cQ [0,1,2,3,4,5,6] hcc ?_;(conv=>whnf);refine ⟨rfl,by decide,by show (0 : Int) < (([w] : List El_fld).length : Nat); simp,?_⟩;(conv=>whnf);refine ⟨by show 0 < ([w] : List El_fld).length; simp,by decide,?_⟩;(conv=>whnf);try (refine ⟨by trivial,?_⟩;conv=>whnf)
  try (refine ⟨by trivial,?_⟩;conv=>whnf)
  refine cQ [] hu ?_;(conv=>whnf);try (refine ⟨by trivial,?_⟩;conv=>whnf)
  try (refine ⟨by trivial,?_⟩;conv=>whnf)
  refine cQ [0,1,2,3,4,5,6] hss ?_;(conv=>whnf);try (refine ⟨by trivial,?_⟩;conv=>whnf)
  refine cQ [0,1,2,3,4,5,6] hgg ?_;(conv=>whnf);try (refine ⟨by trivial,?_⟩;conv=>whnf)
  try (refine ⟨by trivial,?_⟩;conv=>whnf)
  refine rQ [0,1,2,3,4,5,6,11,12] hp ?_;rintro r H' ⟨rfl,m2,C2,op2,hm2',hC2,ho2,rfl⟩;cases C2;all_goals try exact absurd rfl hC2
  all_goals
   (conv=>whnf);exact eQ [0,1,2,3,4,5,6,13] ⟨rfl,m2,_,op2,hm2',hC2,ho2,rfl⟩
theorem c_ar8 (G : Gd c.l fs f h m C op) (x y n : Int) (ty : List El_vt) (hx : U32 x) (sk : Int) (p r : List El_vt) (w : El_fld) (e : Int) (he : ¬ e = 0)
    (hsg : ∀ C',SpecD S 124 [.ptr 6 0,.agg (enc_fld w)] (ckK c ⟨64266,x,y,n,ty⟩ lo se re m C' op (fs ++ [f])) (.int .i64 e) (ckK c ⟨64266,x,y,n,ty⟩ lo se re m C' op (fs ++ [f])))
    (hcm : ∀ C',SpecD S 119 [.ptr 6 0,.int .u32 x,.int .i64 3] (ckK c ⟨64266,x,y,n,ty⟩ lo se re m C' op (fs ++ [f])) (cmpV sk p r [w]) (ckK c ⟨64266,x,y,n,ty⟩ lo se re m C' op (fs ++ [f])))
    : Spec S 75 [.ptr 6 0] (ckK c ⟨64266,x,y,n,ty⟩ lo se re m C op (fs ++ [f])) (okK c ⟨64266,x,y,n,ty⟩ lo se re (fs ++ [f]) (.int .i64 e) (op.take m)) := by
 have hsf := fun C' => c_self (c := c) (i := ⟨64266,x,y,n,ty⟩) (lo := lo) (se := se) (re := re) (op := op) (fr := fs ++ [f]) (m := m) (C := C') false hx;have hn := c_num 1;have hC := G.hC;have hm := G.hm;have he2 : (e == 0) = false := by simpa using he
 refine okK_of rfl (fun _ _ => rfl) ?_;generalize fs ++ [f] = fr at *;clear G;try simp only
 have hu := c_Unpack (tyF w)
 change SpecD S _ _ _ (.agg (enc_vt (uqF w))) _ at hu
 have hcc := hcm C;have hss := hsf C;have hgg := hsg C;cases C;all_goals try exact absurd rfl hC
 all_goals
  refine specE ok sh75 rfl ?_;(conv=>whnf);refine cQ [] hn ?_;(conv=>whnf);try (refine ⟨by trivial,?_⟩;conv=>whnf)
  try (refine ⟨by trivial,?_⟩;conv=>whnf)
  refine cQ [0,1,2,3,4,5,6] hcc ?_;(conv=>whnf);refine ⟨rfl,by decide,by show (0 : Int) < (([w] : List El_fld).length : Nat); simp,?_⟩;(conv=>whnf);refine ⟨by show 0 < ([w] : List El_fld).length; simp,by decide,?_⟩;(conv=>whnf);try (refine ⟨by trivial,?_⟩;conv=>whnf)
  try (refine ⟨by trivial,?_⟩;conv=>whnf)
  refine cQ [] hu ?_;(conv=>whnf);try (refine ⟨by trivial,?_⟩;conv=>whnf)
  try (refine ⟨by trivial,?_⟩;conv=>whnf)
  refine cQ [0,1,2,3,4,5,6] hss ?_;(conv=>whnf);try (refine ⟨by trivial,?_⟩;conv=>whnf)
  refine cQ [0,1,2,3,4,5,6] hgg ?_;(conv=>whnf);simp only [bne,he2];(conv=>whnf);exact eQ [0,1,2,3,4,5,6] ⟨rfl,m,_,op,hm,hC,rfl,.inl rfl⟩
theorem c_ar9 (G : Gd c.l fs f h m C op) (x y n : Int) (ty : List El_vt) (hx : U32 x) (sk : Int) (p r : List El_vt) (w : El_fld)
    (hsg : ∀ C',SpecD S 124 [.ptr 6 0,.agg (enc_fld w)] (ckK c ⟨64266,x,y,n,ty⟩ lo se re m C' op (fs ++ [f])) (.int .i64 0) (ckK c ⟨64266,x,y,n,ty⟩ lo se re m C' op (fs ++ [f])))
    (hcm : ∀ C',SpecD S 119 [.ptr 6 0,.int .u32 x,.int .i64 3] (ckK c ⟨64266,x,y,n,ty⟩ lo se re m C' op (fs ++ [f])) (cmpV sk p r [w]) (ckK c ⟨64266,x,y,n,ty⟩ lo se re m C' op (fs ++ [f])))
    : Spec S 75 [.ptr 6 0] (ckK c ⟨64266,x,y,n,ty⟩ lo se re m C op (fs ++ [f])) (okK c ⟨64266,x,y,n,ty⟩ lo se re (fs ++ [f]) (.int .i64 (swapL c.l h f.dead (op.take m) [⟨1,false,0⟩,⟨1,false,0⟩] [⟨5,false,x⟩]).1) (swapL c.l h f.dead (op.take m) [⟨1,false,0⟩,⟨1,false,0⟩] [⟨5,false,x⟩]).2) := by
 have hsf := fun C' => c_self (c := c) (i := ⟨64266,x,y,n,ty⟩) (lo := lo) (se := se) (re := re) (op := op) (fr := fs ++ [f]) (m := m) (C := C') false hx;have hn := c_num 1;have hC := G.hC;have hm := G.hm;have hp := c_swpOO (i := ⟨64266,x,y,n,ty⟩) (lo := lo) (se := se) (re := re) G [⟨5,false,x⟩] [⟨1,false,0⟩,⟨1,false,0⟩] 1 2 .full .full (by simp) (by simp) (by simp) (by simp)
 change Spec S _ _ _ (swR _ _ _ _ _ _ (swapL c.l h f.dead (op.take m) [⟨1,false,0⟩,⟨1,false,0⟩] [⟨5,false,x⟩]) _) at hp
 generalize swapL c.l h f.dead (op.take m) [⟨1,false,0⟩,⟨1,false,0⟩] [⟨5,false,x⟩] = P at *;obtain ⟨e,o'⟩ := P;generalize fs ++ [f] = fr at *;clear G;try simp only
 have hu := c_Unpack (tyF w)
 change SpecD S _ _ _ (.agg (enc_vt (uqF w))) _ at hu
 have hcc := hcm C;have hss := hsf C;have hgg := hsg C;cases C;all_goals try exact absurd rfl hC
 all_goals
  refine specE ok sh75 rfl ?_;(conv=>whnf);refine cQ [] hn ?_;(conv=>whnf);try (refine ⟨by trivial,?_⟩;conv=>whnf)
  try (refine ⟨by trivial,?_⟩;conv=>whnf)
  refine cQ [0,1,2,3,4,5,6] hcc ?_;(conv=>whnf);refine ⟨rfl,by decide,by show (0 : Int) < (([w] : List El_fld).length : Nat); simp,?_⟩;(conv=>whnf);refine ⟨by show 0 < ([w] : List El_fld).length; simp,by decide,?_⟩;(conv=>whnf);try (refine ⟨by trivial,?_⟩;conv=>whnf)
  try (refine ⟨by trivial,?_⟩;conv=>whnf)
  refine cQ [] hu ?_;(conv=>whnf);try (refine ⟨by trivial,?_⟩;conv=>whnf)
  try (refine ⟨by trivial,?_⟩;conv=>whnf)
  refine cQ [0,1,2,3,4,5,6] hss ?_;(conv=>whnf);try (refine ⟨by trivial,?_⟩;conv=>whnf)
  refine cQ [0,1,2,3,4,5,6] hgg ?_;(conv=>whnf);try (refine ⟨by trivial,?_⟩;conv=>whnf)
  try (refine ⟨by trivial,?_⟩;conv=>whnf)
  refine rQ [0,1,2,3,4,5,6,11,12] hp ?_;rintro r H' ⟨rfl,m2,C2,op2,hm2',hC2,ho2,rfl⟩;cases C2;all_goals try exact absurd rfl hC2
  all_goals
   (conv=>whnf);exact eQ [0,1,2,3,4,5,6,13] ⟨rfl,m2,_,op2,hm2',hC2,ho2,rfl⟩
theorem c_ar10 (G : Gd c.l fs f h m C op) (o x y n : Int) (ty : List El_vt) (hx : U32 x) (sk : Int) (p r : List El_vt) (w : El_fld) (hy : U32 y) (h2 : ¬ o = 64262) (h3 : ¬ o = 64263) (h4 : ¬ o = 64264) (h5 : ¬ o = 64265) (h6 : ¬ o = 64266)
    (hcm : ∀ C',SpecD S 119 [.ptr 6 0,.int .u32 x,.int .i64 3] (ckK c ⟨o,x,y,n,ty⟩ lo se re m C' op (fs ++ [f])) (cmpV sk p r [w]) (ckK c ⟨o,x,y,n,ty⟩ lo se re m C' op (fs ++ [f])))
    : Spec S 75 [.ptr 6 0] (ckK c ⟨o,x,y,n,ty⟩ lo se re m C op (fs ++ [f])) (okK c ⟨o,x,y,n,ty⟩ lo se re (fs ++ [f]) (.int .i64 (elemF c ⟨o,x,y,n,ty⟩ h f.dead (op.take m) w (uqF w)).1) (elemF c ⟨o,x,y,n,ty⟩ h f.dead (op.take m) w (uqF w)).2) := by
 have hsf := fun C' => c_self (c := c) (i := ⟨o,x,y,n,ty⟩) (lo := lo) (se := se) (re := re) (op := op) (fr := fs ++ [f]) (m := m) (C := C') false hx;have hn := c_num 1;have hC := G.hC;have hm := G.hm;have e2 : (o == 64262) = false := by simpa using h2
 have e3 : (o == 64263) = false := by simpa using h3
 have e4 : (o == 64264) = false := by simpa using h4
 have e5 : (o == 64265) = false := by simpa using h5
 have e6 : (o == 64266) = false := by simpa using h6
 have hp := c_elements (lo := lo) (se := se) (re := re) G o x y n ty hx hy w (uqF w);generalize elemF c ⟨o,x,y,n,ty⟩ h f.dead (op.take m) w (uqF w) = P at *;obtain ⟨e,o'⟩ := P;simp only at hp;generalize fs ++ [f] = fr at *;clear G;try simp only
 have hu := c_Unpack (tyF w)
 change SpecD S _ _ _ (.agg (enc_vt (uqF w))) _ at hu
 have hcc := hcm C;have hss := hsf C;cases C;all_goals try exact absurd rfl hC
 all_goals
  refine specE ok sh75 rfl ?_;(conv=>whnf);refine cQ [] hn ?_;(conv=>whnf);try (refine ⟨by trivial,?_⟩;conv=>whnf)
  try (refine ⟨by trivial,?_⟩;conv=>whnf)
  refine cQ [0,1,2,3,4,5,6] hcc ?_;(conv=>whnf);refine ⟨rfl,by decide,by show (0 : Int) < (([w] : List El_fld).length : Nat); simp,?_⟩;(conv=>whnf);refine ⟨by show 0 < ([w] : List El_fld).length; simp,by decide,?_⟩;(conv=>whnf);try (refine ⟨by trivial,?_⟩;conv=>whnf)
  try (refine ⟨by trivial,?_⟩;conv=>whnf)
  refine cQ [] hu ?_;(conv=>whnf);try (refine ⟨by trivial,?_⟩;conv=>whnf)
  try (refine ⟨by trivial,?_⟩;conv=>whnf)
  refine cQ [0,1,2,3,4,5,6] hss ?_;(conv=>whnf);try (refine ⟨by trivial,?_⟩;conv=>whnf)
  simp only [e2];(conv=>whnf);simp only [e3];(conv=>whnf);simp only [e4];(conv=>whnf);simp only [e5];(conv=>whnf);simp only [e6];(conv=>whnf);try (refine ⟨by trivial,?_⟩;conv=>whnf)
  refine rQ [0,1,2,3,4,5,6] hp ?_;rintro r H' ⟨rfl,m2,C2,op2,hm2',hC2,ho2,rfl⟩;cases C2;all_goals try exact absurd rfl hC2
  all_goals
   (conv=>whnf);exact eQ [0,1,2,3,4,5,6,12] ⟨rfl,m2,_,op2,hm2',hC2,ho2,rfl⟩
theorem c_arrays (G : Gd c.l fs f h m C op) (o x y n : Int) (ty : List El_vt) (hx : U32 x) (hy : U32 y) (hn : 0 ≤ n) :
    Spec S 75 [.ptr 6 0] (ckK c ⟨o,x,y,n,ty⟩ lo se re m C op (fs ++ [f])) (okK c ⟨o,x,y,n,ty⟩ lo se re (fs ++ [f]) (.int .i64 (arrF c ⟨o,x,y,n,ty⟩ h f.dead (op.take m)).1) (arrF c ⟨o,x,y,n,ty⟩ h f.dead (op.take m)).2) := by
 have hcm := fun C' => c_comp (c := c) (i := ⟨o,x,y,n,ty⟩) (lo := lo) (se := se) (re := re) (op := op) (fr := fs ++ [f]) (m := m) (C := C') G.hl G.hg x 3 hx;unfold arrF;simp only
 rcases cmpF_cases G.hg x 3 with ⟨e,he,hq⟩ | ⟨s,hs,hq,h1⟩
 · rw [hq] at hcm ⊢;simp only [if_neg he];exact c_ar0 G o x y n ty hx e he hcm
 · rw [hq] at hcm ⊢;have h1 := h1 rfl;obtain ⟨fi,sa,sk,sp,sr,sf⟩ := s;obtain ⟨⟨a,ha0,hal,hag⟩,hk,⟨p,hp0,hpl,hpg⟩,⟨r,hr0,hrl,hrg⟩,⟨g2,hf0,hfl2,hfg⟩⟩ := hs;simp only at ha0 hk hp0 hr0 hf0;subst ha0 hp0 hr0 hf0;simp only [Option.getD_some] at h1;obtain ⟨w,rfl⟩ := one_of h1;simp only [if_true,Option.getD_some,List.getD_cons_zero]
   by_cases h2 : o = 64262
   · subst h2; rw [if_pos rfl]; exact c_ar1 G x y n ty hx sk p r w hcm
   rw [if_neg h2]
   by_cases h3 : o = 64263
   · subst h3;rw [if_pos rfl]
     cases hv : dfl (tyF w) with
     | false => simp only [Bool.false_eq_true,if_false]; exact c_ar2 G x y n ty hx sk p r w hv hcm
     | true => simp only [if_true]; exact c_ar3 G x y n ty hx sk p r w hv hcm
   rw [if_neg h3]
   by_cases h4 : o = 64264
   · subst h4;rw [if_pos rfl]
     by_cases hb : 10000 < n
     · rw [if_pos hb]; exact c_ar4 G x y n ty hx sk p r w hb hcm
     · rw [if_neg hb]; exact c_ar5 G x y n ty hx sk p r w hb hn hcm
   rw [if_neg h4];have hsg := fun C' => c_segment (c := c) (i := ⟨o,x,y,n,ty⟩) (lo := lo) (se := se) (re := re) (op := op) (fr := fs ++ [f]) (m := m) (C := C') G.hl G.hg hy w
   by_cases h5 : o = 64265
   · subst h5;rw [if_pos (.inl rfl)];generalize segF c ⟨64265,x,y,n,ty⟩ w = e at *
     by_cases he : e = 0
     · subst he; rw [if_pos rfl]; exact c_ar7 G x y n ty hx sk p r w hsg hcm
     · rw [if_neg he]; exact c_ar6 G x y n ty hx sk p r w e he hsg hcm
   by_cases h6 : o = 64266
   · subst h6;rw [if_pos (.inr rfl)];generalize segF c ⟨64266,x,y,n,ty⟩ w = e at *
     by_cases he : e = 0
     · subst he; rw [if_pos rfl]; exact c_ar9 G x y n ty hx sk p r w hsg hcm
     · rw [if_neg he]; exact c_ar8 G x y n ty hx sk p r w e he hsg hcm
   rw [if_neg (fun h => h.elim h5 h6)];exact c_ar10 G o x y n ty hx sk p r w hy h2 h3 h4 h5 h6 hcm
end Ck
end Sh
end Go.Proofs.YtomdfaelgcefdaaGreatDoor
