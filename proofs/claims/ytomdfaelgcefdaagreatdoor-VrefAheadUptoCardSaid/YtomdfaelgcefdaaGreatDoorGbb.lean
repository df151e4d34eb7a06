/- CkV CkW ShadeE CkX CkY CrA CrB CrC. -/
import Derived.KernelRfl
import Derived.Test.YtomdfaelgcefdaaGreatDoorGba
set_option maxRecDepth 100000
set_option maxHeartbeats 64000000
namespace Go.Proofs.YtomdfaelgcefdaaGreatDoor
open Go
namespace Sh
namespace Ck
variable {c : Cx} {i : In} {l : List El_grp} {lo : List El_vt} {se : List Bool} {re : List El_vt} {op : List El_vt} {fr fs : List El_frame} {f : El_frame} {h m : Nat} {C : Cp}
theorem c_PushesN (hf : 0 < fr.length) : SpecD S 55 [.ptr 0 0,.nils] (ck l lo se re m C op fr) (.int .i64 0) (ck l lo se re m C op fr) := by
 cases C with
 | unk =>
  refine specE ok sh55 rfl ?_;(conv=>whnf);refine cQ [0,1,2,3,4,5] (c_shut hf) ?_;(conv=>whnf);refine loop_of [] [0,1,2,3,4,5] (fun vs H => vs = [.ptr 0 0,.nils,.int .i64 0,.int .i64 0] ∧ H = ck l lo se re m .unk op fr) (fun _ _ => 0) (by rfl) (by rfl) (by rfl) (by rfl) ⟨rfl,rfl⟩ ?_;rintro vs H1 ⟨rfl,rfl⟩;(conv=>whnf);exact eQ [0,1,2,3,4,5] (by exact ⟨rfl,rfl⟩)
 | full =>
  refine specE ok sh55 rfl ?_;(conv=>whnf);refine cQ [0,1,2,3,4,5] (c_shut hf) ?_;(conv=>whnf);refine loop_of [] [0,1,2,3,4,5] (fun vs H => vs = [.ptr 0 0,.nils,.int .i64 0,.int .i64 0] ∧ H = ck l lo se re m .full op fr) (fun _ _ => 0) (by rfl) (by rfl) (by rfl) (by rfl) ⟨rfl,rfl⟩ ?_;rintro vs H1 ⟨rfl,rfl⟩;(conv=>whnf);exact eQ [0,1,2,3,4,5] (by exact ⟨rfl,rfl⟩)
 | whole =>
  refine specE ok sh55 rfl ?_;(conv=>whnf);refine cQ [0,1,2,3,4,5] (c_shut hf) ?_;(conv=>whnf);refine loop_of [] [0,1,2,3,4,5] (fun vs H => vs = [.ptr 0 0,.nils,.int .i64 0,.int .i64 0] ∧ H = ck l lo se re m .whole op fr) (fun _ _ => 0) (by rfl) (by rfl) (by rfl) (by rfl) ⟨rfl,rfl⟩ ?_;rintro vs H1 ⟨rfl,rfl⟩;(conv=>whnf);exact eQ [0,1,2,3,4,5] (by exact ⟨rfl,rfl⟩)
def tkF (o : Int) : Bool := (decide (208 ≤ o) && decide (o ≤ 212)) || (decide (64256 ≤ o) && decide (o ≤ 64286))
theorem c_takes (o : Int) : SpecD S 69 [.int .i64 o] [] (.bool (tkF o)) [] := by
 unfold tkF;refine specE ok sh69 rfl ?_;(conv=>whnf);cases h1 : decide (208 ≤ o)
 · (conv=>whnf);cases h3 : decide (64256 ≤ o)
   · (conv=>whnf);exact eQ [] (by exact ⟨rfl,rfl⟩)
   · (conv=>whnf);exact eQ [] (by exact ⟨rfl,rfl⟩)
 · (conv=>whnf);cases h2 : decide (o ≤ 212)
   · (conv=>whnf);cases h3 : decide (64256 ≤ o)
     · (conv=>whnf);exact eQ [] (by exact ⟨rfl,rfl⟩)
     · (conv=>whnf);exact eQ [] (by exact ⟨rfl,rfl⟩)
   · (conv=>whnf);exact eQ [] (by exact ⟨rfl,rfl⟩)
theorem c_stN (hC : C ≠ .unk) (hf : 0 < fr.length) (hm : m ≤ op.length) (ht : tkF i.op = false) : Spec S 28 [.agg (xC c),.ptr 0 0,.agg (iC i)] (ck l lo se re m C op fr) (okR l lo se re fr (.int .i64 6) (op.take m)) := by
 have htk := c_takes i.op;rw [ht] at htk;obtain ⟨o,x,y,n,ty⟩ := i;simp only at htk;refine okR_of rfl (fun _ _ => rfl) ?_;cases C;all_goals try exact absurd rfl hC
 all_goals
  refine specE ok sh28 rfl ?_;(conv=>whnf);refine cQ [0,1,2,3,4,5] ((c_PushesN hf)) ?_;(conv=>whnf);refine cQ [] htk ?_;(conv=>whnf);exact eQ [0,1,2,3,4,5] ⟨rfl,m,_,op,hm,hC,rfl,.inl rfl⟩
theorem c_stR (hC : C ≠ .unk) (hf : 0 < fr.length) (o x y n : Int) (ty : List El_vt) (ht : tkF o = true) (f0 : decide (o < 64256) = true) (P : Int × List El_vt)
    (hp : Spec S 70 [.ptr 6 0] (ckK c ⟨o,x,y,n,ty⟩ lo se re m C op fr) (okK c ⟨o,x,y,n,ty⟩ lo se re fr (.int .i64 P.1) P.2))
    : Spec S 28 [.agg (xC c),.ptr 0 0,.agg (iC ⟨o,x,y,n,ty⟩)] (ck c.l lo se re m C op fr) (okR c.l lo se re fr (.int .i64 P.1) P.2) := by
 have htk := c_takes o;rw [ht] at htk;obtain ⟨e,o'⟩ := P;simp only at hp ⊢;have hn := c_num 1;cases C;all_goals try exact absurd rfl hC
 all_goals
  refine specE ok sh28 rfl ?_;(conv=>whnf);refine cQ [0,1,2,3,4,5] ((c_PushesN hf)) ?_;(conv=>whnf);refine cQ [] htk ?_;(conv=>whnf);simp only [f0];(conv=>whnf);refine rQ [0,1,2,3,4,5,8] hp ?_;rintro r H' ⟨rfl,m2,C2,op2,hm2',hC2,ho2,rfl⟩;cases C2;all_goals try exact absurd rfl hC2
  all_goals
   (conv=>whnf);exact eQ [0,1,2,3,4,5,9] ⟨rfl,m2,_,op2,hm2',hC2,ho2,rfl⟩
theorem c_stS (hC : C ≠ .unk) (hf : 0 < fr.length) (o x y n : Int) (ty : List El_vt) (ht : tkF o = true) (f0 : decide (o < 64256) = false) (f1 : decide (o ≤ 64261) = true) (P : Int × List El_vt)
    (hp : Spec S 71 [.ptr 6 0] (ckK c ⟨o,x,y,n,ty⟩ lo se re m C op fr) (okK c ⟨o,x,y,n,ty⟩ lo se re fr (.int .i64 P.1) P.2))
    : Spec S 28 [.agg (xC c),.ptr 0 0,.agg (iC ⟨o,x,y,n,ty⟩)] (ck c.l lo se re m C op fr) (okR c.l lo se re fr (.int .i64 P.1) P.2) := by
 have htk := c_takes o;rw [ht] at htk;obtain ⟨e,o'⟩ := P;simp only at hp ⊢;have hn := c_num 1;cases C;all_goals try exact absurd rfl hC
 all_goals
  refine specE ok sh28 rfl ?_;(conv=>whnf);refine cQ [0,1,2,3,4,5] ((c_PushesN hf)) ?_;(conv=>whnf);refine cQ [] htk ?_;(conv=>whnf);simp only [f0];(conv=>whnf);simp only [f1];(conv=>whnf);refine rQ [0,1,2,3,4,5,8] hp ?_;rintro r H' ⟨rfl,m2,C2,op2,hm2',hC2,ho2,rfl⟩;cases C2;all_goals try exact absurd rfl hC2
  all_goals
   (conv=>whnf);exact eQ [0,1,2,3,4,5,9] ⟨rfl,m2,_,op2,hm2',hC2,ho2,rfl⟩
theorem c_stA (hC : C ≠ .unk) (hf : 0 < fr.length) (o x y n : Int) (ty : List El_vt) (ht : tkF o = true) (f0 : decide (o < 64256) = false) (f1 : decide (o ≤ 64261) = false) (f2 : (o == 64271) = false) (f3 : decide (o ≤ 64275) = true) (P : Int × List El_vt)
    (hp : Spec S 75 [.ptr 6 0] (ckK c ⟨o,x,y,n,ty⟩ lo se re m C op fr) (okK c ⟨o,x,y,n,ty⟩ lo se re fr (.int .i64 P.1) P.2))
    : Spec S 28 [.agg (xC c),.ptr 0 0,.agg (iC ⟨o,x,y,n,ty⟩)] (ck c.l lo se re m C op fr) (okR c.l lo se re fr (.int .i64 P.1) P.2) := by
 have htk := c_takes o;rw [ht] at htk;obtain ⟨e,o'⟩ := P;simp only at hp ⊢;have hn := c_num 1;cases C;all_goals try exact absurd rfl hC
 all_goals
  refine specE ok sh28 rfl ?_;(conv=>whnf);refine cQ [0,1,2,3,4,5] ((c_PushesN hf)) ?_;(conv=>whnf);refine cQ [] htk ?_;(conv=>whnf);simp only [f0];(conv=>whnf);simp only [f1];(conv=>whnf);simp only [f2];(conv=>whnf);simp only [f3];(conv=>whnf);refine rQ [0,1,2,3,4,5,8] hp ?_;rintro r H' ⟨rfl,m2,C2,op2,hm2',hC2,ho2,rfl⟩;cases C2;all_goals try exact absurd rfl hC2
  all_goals
   (conv=>whnf);exact eQ [0,1,2,3,4,5,9] ⟨rfl,m2,_,op2,hm2',hC2,ho2,rfl⟩
theorem c_stC (hC : C ≠ .unk) (hf : 0 < fr.length) (o x y n : Int) (ty : List El_vt) (ht : tkF o = true) (f0 : decide (o < 64256) = false) (f1 : decide (o ≤ 64261) = false) (f2 : (o == 64271) = false) (f3 : decide (o ≤ 64275) = false) (f4 : decide (o ≤ 64279) = true) (P : Int × List El_vt)
    (hp : Spec S 76 [.ptr 6 0] (ckK c ⟨o,x,y,n,ty⟩ lo se re m C op fr) (okK c ⟨o,x,y,n,ty⟩ lo se re fr (.int .i64 P.1) P.2))
    : Spec S 28 [.agg (xC c),.ptr 0 0,.agg (iC ⟨o,x,y,n,ty⟩)] (ck c.l lo se re m C op fr) (okR c.l lo se re fr (.int .i64 P.1) P.2) := by
 have htk := c_takes o;rw [ht] at htk;obtain ⟨e,o'⟩ := P;simp only at hp ⊢;have hn := c_num 1;cases C;all_goals try exact absurd rfl hC
 all_goals
  refine specE ok sh28 rfl ?_;(conv=>whnf);refine cQ [0,1,2,3,4,5] ((c_PushesN hf)) ?_;(conv=>whnf);refine cQ [] htk ?_;(conv=>whnf);simp only [f0];(conv=>whnf);simp only [f1];(conv=>whnf);simp only [f2];(conv=>whnf);simp only [f3];(conv=>whnf);simp only [f4];(conv=>whnf);refine rQ [0,1,2,3,4,5,8] hp ?_;rintro r H' ⟨rfl,m2,C2,op2,hm2',hC2,ho2,rfl⟩;cases C2;all_goals try exact absurd rfl hC2
  all_goals
   (conv=>whnf);exact eQ [0,1,2,3,4,5,9] ⟨rfl,m2,_,op2,hm2',hC2,ho2,rfl⟩
theorem c_stB (hC : C ≠ .unk) (hf : 0 < fr.length) (o x y n : Int) (ty : List El_vt) (ht : tkF o = true) (f0 : decide (o < 64256) = false) (f1 : decide (o ≤ 64261) = false) (f2 : (o == 64271) = false) (f3 : decide (o ≤ 64275) = false) (f4 : decide (o ≤ 64279) = false) (f5 : decide (o ≤ 64281) = true) (P : Int × List El_vt)
    (hp : Spec S 77 [.ptr 6 0] (ckK c ⟨o,x,y,n,ty⟩ lo se re m C op fr) (okK c ⟨o,x,y,n,ty⟩ lo se re fr (.int .i64 P.1) P.2))
    : Spec S 28 [.agg (xC c),.ptr 0 0,.agg (iC ⟨o,x,y,n,ty⟩)] (ck c.l lo se re m C op fr) (okR c.l lo se re fr (.int .i64 P.1) P.2) := by
 have htk := c_takes o;rw [ht] at htk;obtain ⟨e,o'⟩ := P;simp only at hp ⊢;have hn := c_num 1;cases C;all_goals try exact absurd rfl hC
 all_goals
  refine specE ok sh28 rfl ?_;(conv=>whnf);refine cQ [0,1,2,3,4,5] ((c_PushesN hf)) ?_;(conv=>whnf);refine cQ [] htk ?_;(conv=>whnf);simp only [f0];(conv=>whnf);simp only [f1];(conv=>whnf);simp only [f2];(conv=>whnf);simp only [f3];(conv=>whnf);simp only [f4];(conv=>whnf);simp only [f5];(conv=>whnf);refine rQ [0,1,2,3,4,5,8] hp ?_;rintro r H' ⟨rfl,m2,C2,op2,hm2',hC2,ho2,rfl⟩;cases C2;all_goals try exact absurd rfl hC2
  all_goals
   (conv=>whnf);exact eQ [0,1,2,3,4,5,9] ⟨rfl,m2,_,op2,hm2',hC2,ho2,rfl⟩
theorem c_stT (hC : C ≠ .unk) (hf : 0 < fr.length) (o x y n : Int) (ty : List El_vt) (ht : tkF o = true) (f0 : decide (o < 64256) = false) (f1 : decide (o ≤ 64261) = false) (f2 : (o == 64271) = false) (f3 : decide (o ≤ 64275) = false) (f4 : decide (o ≤ 64279) = false) (f5 : decide (o ≤ 64281) = false) (f6 : (o == 64282) = true) (P : Int × List El_vt)
    (hp : Spec S 78 [.ptr 6 0,.int .i64 (-3),.int .i64 (-5)] (ckK c ⟨o,x,y,n,ty⟩ lo se re m C op fr) (okK c ⟨o,x,y,n,ty⟩ lo se re fr (.int .i64 P.1) P.2))
    : Spec S 28 [.agg (xC c),.ptr 0 0,.agg (iC ⟨o,x,y,n,ty⟩)] (ck c.l lo se re m C op fr) (okR c.l lo se re fr (.int .i64 P.1) P.2) := by
 have htk := c_takes o;rw [ht] at htk;obtain ⟨e,o'⟩ := P;simp only at hp ⊢;have hn := c_num 1;cases C;all_goals try exact absurd rfl hC
 all_goals
  refine specE ok sh28 rfl ?_;(conv=>whnf);refine cQ [0,1,2,3,4,5] ((c_PushesN hf)) ?_;(conv=>whnf);refine cQ [] htk ?_;(conv=>whnf);simp only [f0];(conv=>whnf);simp only [f1];(conv=>whnf);simp only [f2];(conv=>whnf);simp only [f3];(conv=>whnf);simp only [f4];(conv=>whnf);simp only [f5];(conv=>whnf);simp only [f6];(conv=>whnf);refine rQ [0,1,2,3,4,5,8] hp ?_;rintro r H' ⟨rfl,m2,C2,op2,hm2',hC2,ho2,rfl⟩;cases C2;all_goals try exact absurd rfl hC2
  all_goals
   (conv=>whnf);exact eQ [0,1,2,3,4,5,9] ⟨rfl,m2,_,op2,hm2',hC2,ho2,rfl⟩
theorem c_stU (hC : C ≠ .unk) (hf : 0 < fr.length) (o x y n : Int) (ty : List El_vt) (ht : tkF o = true) (f0 : decide (o < 64256) = false) (f1 : decide (o ≤ 64261) = false) (f2 : (o == 64271) = false) (f3 : decide (o ≤ 64275) = false) (f4 : decide (o ≤ 64279) = false) (f5 : decide (o ≤ 64281) = false) (f6 : (o == 64282) = false) (f7 : (o == 64283) = true) (P : Int × List El_vt)
    (hp : Spec S 78 [.ptr 6 0,.int .i64 (-5),.int .i64 (-3)] (ckK c ⟨o,x,y,n,ty⟩ lo se re m C op fr) (okK c ⟨o,x,y,n,ty⟩ lo se re fr (.int .i64 P.1) P.2))
    : Spec S 28 [.agg (xC c),.ptr 0 0,.agg (iC ⟨o,x,y,n,ty⟩)] (ck c.l lo se re m C op fr) (okR c.l lo se re fr (.int .i64 P.1) P.2) := by
 have htk := c_takes o;rw [ht] at htk;obtain ⟨e,o'⟩ := P;simp only at hp ⊢;have hn := c_num 1;cases C;all_goals try exact absurd rfl hC
 all_goals
  refine specE ok sh28 rfl ?_;(conv=>whnf);refine cQ [0,1,2,3,4,5] ((c_PushesN hf)) ?_;(conv=>whnf);refine cQ [] htk ?_;(conv=>whnf);simp only [f0];(conv=>whnf);simp only [f1];(conv=>whnf);simp only [f2];(conv=>whnf);simp only [f3];(conv=>whnf);simp only [f4];(conv=>whnf);simp only [f5];(conv=>whnf);simp only [f6];(conv=>whnf);simp only [f7];(conv=>whnf);refine rQ [0,1,2,3,4,5,8] hp ?_;rintro r H' ⟨rfl,m2,C2,op2,hm2',hC2,ho2,rfl⟩;cases C2;all_goals try exact absurd rfl hC2
  all_goals
   (conv=>whnf);exact eQ [0,1,2,3,4,5,9] ⟨rfl,m2,_,op2,hm2',hC2,ho2,rfl⟩
theorem c_stV (hC : C ≠ .unk) (hf : 0 < fr.length) (o x y n : Int) (ty : List El_vt) (ht : tkF o = true) (f0 : decide (o < 64256) = false) (f1 : decide (o ≤ 64261) = false) (f2 : (o == 64271) = true) (P : Int × List El_vt)
    (hp : Spec S 72 [.ptr 6 0,.own .vt 7 0 1 .full,.own .vt 8 0 1 .full] (ckK c ⟨o,x,y,n,ty⟩ lo se re m C op fr ++ [.row .vt [⟨1,false,0⟩],.row .vt [⟨5,true,-9⟩]]) (swR c ⟨o,x,y,n,ty⟩ lo se re fr P [.gone,.gone]))
    : Spec S 28 [.agg (xC c),.ptr 0 0,.agg (iC ⟨o,x,y,n,ty⟩)] (ck c.l lo se re m C op fr) (okR c.l lo se re fr (.int .i64 P.1) P.2) := by
 have htk := c_takes o;rw [ht] at htk;obtain ⟨e,o'⟩ := P;simp only at hp ⊢;have hn := c_num 1;have hr := c_ref true (-9);cases C;all_goals try exact absurd rfl hC
 all_goals
  refine specE ok sh28 rfl ?_;(conv=>whnf);refine cQ [0,1,2,3,4,5] ((c_PushesN hf)) ?_;(conv=>whnf);refine cQ [] htk ?_;(conv=>whnf);simp only [f0];(conv=>whnf);simp only [f1];(conv=>whnf);simp only [f2];(conv=>whnf);refine cQ [] hn ?_;(conv=>whnf);try (refine ⟨by trivial,?_⟩;conv=>whnf)
  try (refine ⟨by trivial,?_⟩;conv=>whnf)
  refine cQ [] hr ?_;(conv=>whnf);try (refine ⟨by trivial,?_⟩;conv=>whnf)
  try (refine ⟨by trivial,?_⟩;conv=>whnf)
  refine rQ [0,1,2,3,4,5,8,9,10] hp ?_;rintro r H' ⟨rfl,m2,C2,op2,hm2',hC2,ho2,rfl⟩;cases C2;all_goals try exact absurd rfl hC2
  all_goals
   (conv=>whnf);exact eQ [0,1,2,3,4,5,11] ⟨rfl,m2,_,op2,hm2',hC2,ho2,rfl⟩
theorem c_stW (hC : C ≠ .unk) (hf : 0 < fr.length) (o x y n : Int) (ty : List El_vt) (ht : tkF o = true) (f0 : decide (o < 64256) = false) (f1 : decide (o ≤ 64261) = false) (f2 : (o == 64271) = false) (f3 : decide (o ≤ 64275) = false) (f4 : decide (o ≤ 64279) = false) (f5 : decide (o ≤ 64281) = false) (f6 : (o == 64282) = false) (f7 : (o == 64283) = false) (f8 : (o == 64284) = true) (P : Int × List El_vt)
    (hp : Spec S 72 [.ptr 6 0,.own .vt 7 0 1 .full,.own .vt 8 0 1 .full] (ckK c ⟨o,x,y,n,ty⟩ lo se re m C op fr ++ [.row .vt [⟨5,false,-7⟩],.row .vt [⟨1,false,0⟩]]) (swR c ⟨o,x,y,n,ty⟩ lo se re fr P [.gone,.gone]))
    : Spec S 28 [.agg (xC c),.ptr 0 0,.agg (iC ⟨o,x,y,n,ty⟩)] (ck c.l lo se re m C op fr) (okR c.l lo se re fr (.int .i64 P.1) P.2) := by
 have htk := c_takes o;rw [ht] at htk;obtain ⟨e,o'⟩ := P;simp only at hp ⊢;have hn := c_num 1;have hr := c_ref false (-7);cases C;all_goals try exact absurd rfl hC
 all_goals
  refine specE ok sh28 rfl ?_;(conv=>whnf);refine cQ [0,1,2,3,4,5] ((c_PushesN hf)) ?_;(conv=>whnf);refine cQ [] htk ?_;(conv=>whnf);simp only [f0];(conv=>whnf);simp only [f1];(conv=>whnf);simp only [f2];(conv=>whnf);simp only [f3];(conv=>whnf);simp only [f4];(conv=>whnf);simp only [f5];(conv=>whnf);simp only [f6];(conv=>whnf);simp only [f7];(conv=>whnf);simp only [f8];(conv=>whnf);refine cQ [] hr ?_;(conv=>whnf);try (refine ⟨by trivial,?_⟩;conv=>whnf)
  try (refine ⟨by trivial,?_⟩;conv=>whnf)
  refine cQ [] hn ?_;(conv=>whnf);try (refine ⟨by trivial,?_⟩;conv=>whnf)
  try (refine ⟨by trivial,?_⟩;conv=>whnf)
  refine rQ [0,1,2,3,4,5,8,9,10] hp ?_;rintro r H' ⟨rfl,m2,C2,op2,hm2',hC2,ho2,rfl⟩;cases C2;all_goals try exact absurd rfl hC2
  all_goals
   (conv=>whnf);exact eQ [0,1,2,3,4,5,11] ⟨rfl,m2,_,op2,hm2',hC2,ho2,rfl⟩
theorem c_stX (hC : C ≠ .unk) (hf : 0 < fr.length) (o x y n : Int) (ty : List El_vt) (ht : tkF o = true) (f0 : decide (o < 64256) = false) (f1 : decide (o ≤ 64261) = false) (f2 : (o == 64271) = false) (f3 : decide (o ≤ 64275) = false) (f4 : decide (o ≤ 64279) = false) (f5 : decide (o ≤ 64281) = false) (f6 : (o == 64282) = false) (f7 : (o == 64283) = false) (f8 : (o == 64284) = false) (P : Int × List El_vt)
    (hp : Spec S 72 [.ptr 6 0,.own .vt 7 0 1 .full,.own .vt 8 0 1 .full] (ckK c ⟨o,x,y,n,ty⟩ lo se re m C op fr ++ [.row .vt [⟨1,false,0⟩],.row .vt [⟨5,true,-7⟩]]) (swR c ⟨o,x,y,n,ty⟩ lo se re fr P [.gone,.gone]))
    : Spec S 28 [.agg (xC c),.ptr 0 0,.agg (iC ⟨o,x,y,n,ty⟩)] (ck c.l lo se re m C op fr) (okR c.l lo se re fr (.int .i64 P.1) P.2) := by
 have htk := c_takes o;rw [ht] at htk;obtain ⟨e,o'⟩ := P;simp only at hp ⊢;have hn := c_num 1;have hr := c_ref true (-7);cases C;all_goals try exact absurd rfl hC
 all_goals
  refine specE ok sh28 rfl ?_;(conv=>whnf);refine cQ [0,1,2,3,4,5] ((c_PushesN hf)) ?_;(conv=>whnf);refine cQ [] htk ?_;(conv=>whnf);simp only [f0];(conv=>whnf);simp only [f1];(conv=>whnf);simp only [f2];(conv=>whnf);simp only [f3];(conv=>whnf);simp only [f4];(conv=>whnf);simp only [f5];(conv=>whnf);simp only [f6];(conv=>whnf);simp only [f7];(conv=>whnf);simp only [f8];(conv=>whnf);refine cQ [] hn ?_;(conv=>whnf);try (refine ⟨by trivial,?_⟩;conv=>whnf)
  try (refine ⟨by trivial,?_⟩;conv=>whnf)
  refine cQ [] hr ?_;(conv=>whnf);try (refine ⟨by trivial,?_⟩;conv=>whnf)
  try (refine ⟨by trivial,?_⟩;conv=>whnf)
  refine rQ [0,1,2,3,4,5,8,9,10] hp ?_;rintro r H' ⟨rfl,m2,C2,op2,hm2',hC2,ho2,rfl⟩;cases C2;all_goals try exact absurd rfl hC2
  all_goals
   (conv=>whnf);exact eQ [0,1,2,3,4,5,11] ⟨rfl,m2,_,op2,hm2',hC2,ho2,rfl⟩
end Ck
end Sh
end Go.Proofs.YtomdfaelgcefdaaGreatDoor
namespace Go.Proofs.YtomdfaelgcefdaaGreatDoor
open Go
namespace Sh
namespace Ck
variable {c : Cx} {i : In} {l : List El_grp} {lo : List El_vt} {se : List Bool} {re : List El_vt} {op : List El_vt} {fr fs : List El_frame} {f : El_frame} {h m : Nat} {C : Cp}
noncomputable def refsF (c : Cx) (i : In) (h : Nat) (d : Bool) (ops : List El_vt) : Int × List El_vt :=
 if i.op = 208 then (match i.ty with | [] => (1,ops) | t :: _ => if isF c.l t.heap = true then (0,ops ++ [⟨5,true,t.heap⟩]) else (150,ops))
 else if i.op = 209 then popdF h d ops (fun _ => ⟨1,false,0⟩)
 else if i.op = 210 then (if i.x < c.fu.length then (if i.x < c.rf.length then (if c.rf.getD i.x.toNat false = true then (0,ops ++ [⟨5,false,c.fu.getD i.x.toNat 0⟩]) else (162,ops)) else (162,ops)) else (150,ops))
 else if i.op = 211 then swapL c.l h d ops [⟨5,true,-6⟩,⟨5,true,-6⟩] [⟨1,false,0⟩]
 else popdF h d ops (fun v => ⟨v.num,false,v.heap⟩)
noncomputable def stepF (c : Cx) (i : In) (fr : List El_frame) (h : Nat) (d : Bool) (ops : List El_vt) : Int × List El_vt :=
 if tkF i.op = true then
  (if i.op < 64256 then refsF c i h d ops
  else if i.op ≤ 64261 then structF c i h d ops
  else if i.op = 64271 then swapL c.l h d ops [⟨5,true,-9⟩] [⟨1,false,0⟩]
  else if i.op ≤ 64275 then arrF c i h d ops
  else if i.op ≤ 64279 then castF c i h d ops
  else if i.op ≤ 64281 then brF c i fr h d ops
  else if i.op = 64282 then turnF c.l h d ops (-3) (-5)
  else if i.op = 64283 then turnF c.l h d ops (-5) (-3)
  else if i.op = 64284 then swapL c.l h d ops [⟨1,false,0⟩] [⟨5,false,-7⟩]
  else swapL c.l h d ops [⟨5,true,-7⟩] [⟨1,false,0⟩])
 else (6,ops)
theorem c_refs (G : Gd c.l fs f h m C op) (o x y n : Int) (ty : List El_vt) (ho : 208 ≤ o ∧ o ≤ 212) (hx : U32 x) (ht : ty.length ≤ 4000000) :
    Spec S 70 [.ptr 6 0] (ckK c ⟨o,x,y,n,ty⟩ lo se re m C op (fs ++ [f])) (okK c ⟨o,x,y,n,ty⟩ lo se re (fs ++ [f]) (.int .i64 (refsF c ⟨o,x,y,n,ty⟩ h f.dead (op.take m)).1) (refsF c ⟨o,x,y,n,ty⟩ h f.dead (op.take m)).2) := by
 have h5 : o = 208 ∨ o = 209 ∨ o = 210 ∨ o = 211 ∨ o = 212 := by omega
 unfold refsF;simp only
 rcases h5 with rfl | rfl | rfl | rfl | rfl
 · rw [if_pos rfl];have k := c_refs208 (lo := lo) (se := se) (re := re) G x y n ty ht
   cases ty with
   | nil => exact k
   | cons t r =>
    simp only at k ⊢
    by_cases hb : isF c.l t.heap = true
    · rw [if_pos hb]; rw [if_pos hb,if_pos hb] at k; exact k
    · rw [if_neg hb]; rw [if_neg hb,if_neg hb] at k; exact k
 · rw [if_neg (by decide),if_pos rfl]; exact c_refs209 G x y n ty
 · rw [if_neg (by decide),if_neg (by decide),if_pos rfl];have k := c_refs210 (lo := lo) (se := se) (re := re) G x y n ty hx
   by_cases h1 : x < c.fu.length
   · rw [if_pos h1]; rw [if_pos h1,if_pos h1] at k
     by_cases h2 : x < c.rf.length
     · rw [if_pos h2]; rw [if_pos h2,if_pos h2] at k
       by_cases hb : c.rf.getD x.toNat false = true
       · rw [if_pos hb]; rw [if_pos hb,if_pos hb] at k; exact k
       · rw [if_neg hb]; rw [if_neg hb,if_neg hb] at k; exact k
     · rw [if_neg h2]; rw [if_neg h2,if_neg h2] at k; exact k
   · rw [if_neg h1]; rw [if_neg h1,if_neg h1] at k; exact k
 · rw [if_neg (by decide),if_neg (by decide),if_neg (by decide),if_pos rfl]; exact c_refs211 G x y n ty
 · rw [if_neg (by decide),if_neg (by decide),if_neg (by decide),if_neg (by decide)]; exact c_refs212 G x y n ty
theorem labF_len {fr : List El_frame} (hg : ∀ f ∈ fr,(f.inn.getD []).length ≤ 1048576 ∧ (f.out.getD []).length ≤ 1048576) {x : Int} {q : List El_vt} (hx : U32 x) (h : labF fr x = some q) : q.length ≤ 1048576 := by
 unfold labF at h;split at h
 · rename_i hlt;have h0 := hx.1;have hm := hg _ (List.mem_of_getElem? (getD_at (show fr.length - 1 - x.toNat < fr.length by omega) zfr));cases h;unfold labL;split
   · exact hm.1
   · exact hm.2
 · cases h
theorem c_branches (G : Gd c.l fs f h m C op) (hf3 : fs.length ≤ 3000000) (o x y n : Int) (ty : List El_vt) (hx : U32 x) (hg : ∀ f' ∈ fs ++ [f],(f'.inn.getD []).length ≤ 1048576 ∧ (f'.out.getD []).length ≤ 1048576) :
    Spec S 77 [.ptr 6 0] (ckK c ⟨o,x,y,n,ty⟩ lo se re m C op (fs ++ [f])) (okK c ⟨o,x,y,n,ty⟩ lo se re (fs ++ [f]) (.int .i64 (brF c ⟨o,x,y,n,ty⟩ (fs ++ [f]) h f.dead (op.take m)).1) (brF c ⟨o,x,y,n,ty⟩ (fs ++ [f]) h f.dead (op.take m)).2) := by
 have hlb := fun C' => c_Label (l := c.l) (lo := lo) (se := se) (re := re) (op := op) (fr := fs ++ [f]) (m := m) (C := C') x hx (by simp; omega) hg;have hkn := fun t C' => c_known (c := c) (i := ⟨o,x,y,n,ty⟩) (lo := lo) (se := se) (re := re) (op := op) (fr := fs ++ [f]) (m := m) (C := C') G.hl G.hg t;unfold brF
 match ty with
 | [] => exact c_br0 G o x y n
 | [a] => exact c_br1 G o x y n a
 | a :: b :: r =>
  simp only
  cases hq : labF (fs ++ [f]) x with
  | none =>
   rw [hq] at hlb;exact c_br2 G o x y n a b r hlb
  | some q =>
   have hql := labF_len hg hx hq;rw [hq] at hlb;simp only
   by_cases hq0 : q.length = 0
   · rw [if_neg (fun h => h.1 hq0)];exact c_br3 G o x y n a b r q (by omega) hq0 hlb
   by_cases h5 : (lastF q).num = 5
   · rw [if_pos ⟨hq0,h5⟩];have ha := hkn a.heap;have hb := hkn b.heap
     cases hka : isF c.l a.heap with
     | false =>
      rw [hka] at ha;rw [if_neg (by simp)];exact c_br5 G o x y n a b r q (by omega) hq0 h5 _ ha hb hlb
     | true =>
      rw [hka] at ha
      cases hkb : isF c.l b.heap with
      | false =>
       rw [hkb] at hb;rw [if_neg (by simp)];exact c_br6 G o x y n a b r q (by omega) hq0 h5 ha hb hlb
      | true =>
       rw [hkb] at hb;rw [if_pos ⟨rfl,rfl⟩]
       by_cases ho : o = 64281
       · have ho' : (o == 64281) = true := by simpa using ho
         rw [if_pos ho,if_pos ho]
         cases hv1 : valB c.l b a with
         | false => rw [if_neg (by simp)]; exact c_br8 G o x y n a b r q (by omega) hq0 h5 ho' hv1 ha hb hlb
         | true =>
          cases hv2 : valB c.l (diffF a b) (lastF q) with
          | false => rw [if_neg (by simp)]; exact c_br10 G o x y n a b r q (by omega) hq0 h5 ho' hv1 hv2 ha hb hlb
          | true => rw [if_pos ⟨rfl,rfl⟩]; exact c_br12 G o x y n a b r q (by omega) hq0 h5 ho' hv1 hv2 ha hb hlb
       · have ho' : (o == 64281) = false := by simpa using ho
         rw [if_neg ho,if_neg ho]
         cases hv1 : valB c.l b a with
         | false => rw [if_neg (by simp)]; exact c_br7 G o x y n a b r q (by omega) hq0 h5 ho' hv1 ha hb hlb
         | true =>
          cases hv2 : valB c.l b (lastF q) with
          | false => rw [if_neg (by simp)]; exact c_br9 G o x y n a b r q (by omega) hq0 h5 ho' hv1 hv2 ha hb hlb
          | true => rw [if_pos ⟨rfl,rfl⟩]; exact c_br11 G o x y n a b r q (by omega) hq0 h5 ho' hv1 hv2 ha hb hlb
   · rw [if_neg (fun h => h5 h.2)];exact c_br4 G o x y n a b r q (by omega) hq0 h5 hlb
structure Gi (i : In) : Prop where
 hx : U32 i.x
 hy : U32 i.y
 hn : 0 ≤ i.n
 ht : i.ty.length ≤ 4000000
theorem c_Step (G : Gd c.l fs f h m C op) (hf3 : fs.length ≤ 3000000) (hi : Gi i) (hg : ∀ f' ∈ fs ++ [f],(f'.inn.getD []).length ≤ 1048576 ∧ (f'.out.getD []).length ≤ 1048576) :
    Spec S 28 [.agg (xC c),.ptr 0 0,.agg (iC i)] (ck c.l lo se re m C op (fs ++ [f])) (okR c.l lo se re (fs ++ [f]) (.int .i64 (stepF c i (fs ++ [f]) h f.dead (op.take m)).1) (stepF c i (fs ++ [f]) h f.dead (op.take m)).2) := by
 obtain ⟨o,x,y,n,ty⟩ := i;obtain ⟨hx,hy,hn,ht⟩ := hi;simp only at hx hy hn ht;have hf0 : 0 < (fs ++ [f]).length := by simp
 unfold stepF;simp only
 cases htk : tkF o with
 | false => exact c_stN G.hC hf0 G.hm htk
 | true =>
  rw [if_pos rfl]
  have ho : (208 ≤ o ∧ o ≤ 212) ∨ (64256 ≤ o ∧ o ≤ 64286) := by
   unfold tkF at htk;simp only [Bool.or_eq_true,Bool.and_eq_true,decide_eq_true_eq] at htk;exact htk
  by_cases h0 : o < 64256
  · rw [if_pos h0];exact c_stR G.hC hf0 o x y n ty htk (decide_eq_true h0) _ (c_refs G o x y n ty (by omega) hx ht)
  rw [if_neg h0];have d0 := decide_eq_false h0
  by_cases h1 : o ≤ 64261
  · rw [if_pos h1];exact c_stS G.hC hf0 o x y n ty htk d0 (decide_eq_true h1) _ (c_structs G o x y n ty hx hy)
  rw [if_neg h1];have d1 := decide_eq_false h1
  by_cases h2 : o = 64271
  · rw [if_pos h2];exact c_stV G.hC hf0 o x y n ty htk d0 d1 (by simpa using h2) _ (c_swpOO (i := ⟨o,x,y,n,ty⟩) (lo := lo) (se := se) (re := re) G [⟨1,false,0⟩] [⟨5,true,-9⟩] 1 1 .full .full (by simp) (by simp) (by simp) (by simp))
  rw [if_neg h2];have d2 : (o == 64271) = false := by simpa using h2
  by_cases h3 : o ≤ 64275
  · rw [if_pos h3];exact c_stA G.hC hf0 o x y n ty htk d0 d1 d2 (decide_eq_true h3) _ (c_arrays G o x y n ty hx hy hn)
  rw [if_neg h3];have d3 := decide_eq_false h3
  by_cases h4 : o ≤ 64279
  · rw [if_pos h4];exact c_stC G.hC hf0 o x y n ty htk d0 d1 d2 d3 (decide_eq_true h4) _ (c_casts G o x y n ty)
  rw [if_neg h4];have d4 := decide_eq_false h4
  by_cases h5 : o ≤ 64281
  · rw [if_pos h5];exact c_stB G.hC hf0 o x y n ty htk d0 d1 d2 d3 d4 (decide_eq_true h5) _ (c_branches G hf3 o x y n ty hx hg)
  rw [if_neg h5];have d5 := decide_eq_false h5
  by_cases h6 : o = 64282
  · rw [if_pos h6];exact c_stT G.hC hf0 o x y n ty htk d0 d1 d2 d3 d4 d5 (by simpa using h6) _ (c_turned G (-3) (-5))
  rw [if_neg h6];have d6 : (o == 64282) = false := by simpa using h6
  by_cases h7 : o = 64283
  · rw [if_pos h7];exact c_stU G.hC hf0 o x y n ty htk d0 d1 d2 d3 d4 d5 d6 (by simpa using h7) _ (c_turned G (-5) (-3))
  rw [if_neg h7];have d7 : (o == 64283) = false := by simpa using h7
  by_cases h8 : o = 64284
  · rw [if_pos h8];exact c_stW G.hC hf0 o x y n ty htk d0 d1 d2 d3 d4 d5 d6 d7 (by simpa using h8) _ (c_swpOO (i := ⟨o,x,y,n,ty⟩) (lo := lo) (se := se) (re := re) G [⟨5,false,-7⟩] [⟨1,false,0⟩] 1 1 .full .full (by simp) (by simp) (by simp) (by simp))
  rw [if_neg h8];have d8 : (o == 64284) = false := by simpa using h8
  exact c_stX G.hC hf0 o x y n ty htk d0 d1 d2 d3 d4 d5 d6 d7 d8 _ (c_swpOO (i := ⟨o,x,y,n,ty⟩) (lo := lo) (se := se) (re := re) G [⟨1,false,0⟩] [⟨5,true,-7⟩] 1 1 .full .full (by simp) (by simp) (by simp) (by simp))
end Ck
end Sh
end Go.Proofs.YtomdfaelgcefdaaGreatDoor
namespace Go.Proofs.YtomdfaelgcefdaaGreatDoor
open Go
namespace Sh
open Q
def LE0 : List Nat := [0,2,3,4,8]
def F67 : FC KT ElT := ⟨(.seq (.reg [k (i 0) 2] LE0) (.seq (.seq (.reg [m 0 5,q (.call 53) (a 5) 6,m 6 3] LE0) (.seq (.reg [m 3 7,q (.bin .neq .num) [(t 7),(i 0)] 8] LE0) (.cond (t 8) (.seq (.reg [m 3 9,m 9 2] LE0) .ret) .skip))) (.seq (.reg [m 0 10,q .nilck (a 10) 11,q (.faddr 6) (a 11) 12,q (.call 59) (a 12) 13,m 13 4] LE0) (.seq (.reg [m 0 14,q .nilck (a 14) 15,q (.faddr 5) (a 15) 16,m 4 17,q .nilck (a 17) 18,q (.faddr 3) (a 18) 19,q (.load 1 false) (a 19) 20,q (.call 113) [(t 16),(t 20)] 21] LE0) (.seq (.reg [m 4 22,q .nilck (a 22) 23,q (.faddr 5) (a 23) 24,p (.store 1) [(t 24),(c (.bool true))]] LE0) (.seq (.reg [k (i 0) 2] LE0) .ret)))))),[(2,.none)],25⟩
theorem sh67 : shade S 67 LE0 [] = some F67 := by kernel_rfl
end Sh
end Go.Proofs.YtomdfaelgcefdaaGreatDoor
namespace Go.Proofs.YtomdfaelgcefdaaGreatDoor
open Go
namespace Sh
namespace Ck
def mkF (op h : Int) (inn : Option (List El_vt)) (out : List El_vt) (sets : List Bool) (dead : Bool) : El_frame := ⟨op,inn,some out,h,some sets,dead⟩
theorem c_cpR_vt_whole (xs : List (ElT .vt)) (m : Nat) (hm : m ≤ xs.length) (hl : m ≤ 4000000) : SpecD S 51 [.own .vt 0 0 m .whole] [.row .vt xs] (.imm .vt (xs.take m)) [.row .vt xs] := by
 have hx : (xs.drop 0).take m = xs.take m := by rw [List.drop_zero]
 have hxl : (xs.take m).length = m := by simp; omega
 refine specE ok sh51 rfl ?_;(conv=>whnf);refine ⟨by omega,rfl,⟨by unfold maxLen; omega,by simp [S]; omega⟩,?_⟩;(conv=>whnf);refine ⟨rfl,by omega,?_⟩;(conv=>whnf);refine ⟨rfl,by simp,?_⟩;(conv=>whnf);refine endL_of [0] [1] (by rfl) (by rfl) (by rfl) ⟨trivial,trivial⟩ ⟨rfl,?_⟩ ⟨?_,rfl⟩
 · show 0 + (m : Int).toNat ≤ (List.take 0 (List.replicate (m : Int).toNat _) ++ List.take (m : Int).toNat (List.take m (List.drop 0 xs)) ++ List.drop (0 + min (List.take m (List.drop 0 xs)).length (m : Int).toNat) (List.replicate (m : Int).toNat _)).length;rw [hx]; simp; omega
 · show (AV.imm .vt (((List.take 0 (List.replicate (m : Int).toNat _) ++ List.take (m : Int).toNat (List.take m (List.drop 0 xs)) ++ List.drop (0 + min (List.take m (List.drop 0 xs)).length (m : Int).toNat) (List.replicate (m : Int).toNat _)).drop 0).take (m : Int).toNat) : V) = _;rw [hx,Int.toNat_natCast,hxl,Nat.min_self];simp;rw [List.take_take,List.take_take];simp only [Nat.min_self]
theorem c_cpR_vt_full (xs : List (ElT .vt)) (m : Nat) (hm : m ≤ xs.length) (hl : m ≤ 4000000) : SpecD S 51 [.own .vt 0 0 m .full] [.row .vt xs] (.imm .vt (xs.take m)) [.row .vt xs] := by
 have hx : (xs.drop 0).take m = xs.take m := by rw [List.drop_zero]
 have hxl : (xs.take m).length = m := by simp; omega
 refine specE ok sh51 rfl ?_;(conv=>whnf);refine ⟨by omega,rfl,⟨by unfold maxLen; omega,by simp [S]; omega⟩,?_⟩;(conv=>whnf);refine ⟨rfl,by omega,?_⟩;(conv=>whnf);refine ⟨rfl,by simp,?_⟩;(conv=>whnf);refine endL_of [0] [1] (by rfl) (by rfl) (by rfl) ⟨trivial,trivial⟩ ⟨rfl,?_⟩ ⟨?_,rfl⟩
 · show 0 + (m : Int).toNat ≤ (List.take 0 (List.replicate (m : Int).toNat _) ++ List.take (m : Int).toNat (List.take m (List.drop 0 xs)) ++ List.drop (0 + min (List.take m (List.drop 0 xs)).length (m : Int).toNat) (List.replicate (m : Int).toNat _)).length;rw [hx]; simp; omega
 · show (AV.imm .vt (((List.take 0 (List.replicate (m : Int).toNat _) ++ List.take (m : Int).toNat (List.take m (List.drop 0 xs)) ++ List.drop (0 + min (List.take m (List.drop 0 xs)).length (m : Int).toNat) (List.replicate (m : Int).toNat _)).drop 0).take (m : Int).toNat) : V) = _;rw [hx,Int.toNat_natCast,hxl,Nat.min_self];simp;rw [List.take_take,List.take_take];simp only [Nat.min_self]
theorem c_cpR_bool_whole (xs : List (ElT .bool)) (m : Nat) (hm : m ≤ xs.length) (hl : m ≤ 4000000) : SpecD S 58 [.own .bool 0 0 m .whole] [.row .bool xs] (.imm .bool (xs.take m)) [.row .bool xs] := by
 have hx : (xs.drop 0).take m = xs.take m := by rw [List.drop_zero]
 have hxl : (xs.take m).length = m := by simp; omega
 refine specE ok sh58 rfl ?_;(conv=>whnf);refine ⟨by omega,rfl,⟨by unfold maxLen; omega,by simp [S]; omega⟩,?_⟩;(conv=>whnf);refine ⟨rfl,by omega,?_⟩;(conv=>whnf);refine ⟨rfl,by simp,?_⟩;(conv=>whnf);refine endL_of [0] [1] (by rfl) (by rfl) (by rfl) ⟨trivial,trivial⟩ ⟨rfl,?_⟩ ⟨?_,rfl⟩
 · show 0 + (m : Int).toNat ≤ (List.take 0 (List.replicate (m : Int).toNat _) ++ List.take (m : Int).toNat (List.take m (List.drop 0 xs)) ++ List.drop (0 + min (List.take m (List.drop 0 xs)).length (m : Int).toNat) (List.replicate (m : Int).toNat _)).length;rw [hx]; simp; omega
 · show (AV.imm .bool (((List.take 0 (List.replicate (m : Int).toNat _) ++ List.take (m : Int).toNat (List.take m (List.drop 0 xs)) ++ List.drop (0 + min (List.take m (List.drop 0 xs)).length (m : Int).toNat) (List.replicate (m : Int).toNat _)).drop 0).take (m : Int).toNat) : V) = _;rw [hx,Int.toNat_natCast,hxl,Nat.min_self];simp;rw [List.take_take,List.take_take];simp only [Nat.min_self]
theorem c_cpN_vt : SpecD S 51 [.nils] [] (.imm .vt []) [] := by
 refine specE ok sh51 rfl ?_;(conv=>whnf);refine ⟨by decide,rfl,⟨by decide,by decide⟩,?_⟩;(conv=>whnf);refine ⟨rfl,by decide,?_⟩;(conv=>whnf);exact endL_of [] [0] (by rfl) (by rfl) (by rfl) trivial ⟨rfl,by decide⟩ ⟨rfl,rfl⟩
def nwE (n : Nat) (lo : List El_vt) (i : Nat) : Bool := decide ((i : Int) < n) || dfl (lo.getD i zvt)
def nwSe (n : Nat) (lo : List El_vt) (j : Nat) : List Bool := (List.range j).map (nwE n lo)
def nwV (ps rs : List El_vt) (n : Nat) (j : Int) : List V := [.imm .vt ps,.imm .vt rs,.ptr 0 0,.own .vt 1 0 n .whole,.int .i64 n,.int .i64 j]
def nwH (l : List El_grp) (rs : List El_vt) (n : Nat) (lo : List El_vt) (se : List Bool) : Heap KT ElT := [.cells [.bool true,.imm .grp l,.own .vt 1 0 n .whole,.own .bool 2 0 se.length .whole,.own .vt 3 0 rs.length .whole,.nils,.nils],.row .vt lo,.row .bool se,.row .vt rs]
theorem nwSe_len (n : Nat) (lo : List El_vt) (j : Nat) : (nwSe n lo j).length = j := by simp [nwSe]
theorem nwSe_succ (n : Nat) (lo : List El_vt) (j : Nat) : nwSe n lo (j + 1) = nwSe n lo j ++ [nwE n lo j] := by simp [nwSe,List.range_succ]
theorem c_pushF_N (l : List El_grp) (rs : List El_vt) (n : Nat) (lo : List El_vt) (se : List Bool) (a b : Int) (d s : List _) (x : Bool) : SpecD S 56 [.ptr 0 6,.agg (enc_frame (mkF a b none d s x))] (nwH l rs n lo se) (.tup [])
    [.cells [.bool true,.imm .grp l,.own .vt 1 0 n .whole,.own .bool 2 0 se.length .whole,.own .vt 3 0 rs.length .whole,.nils,.own .frame 4 0 1 .whole],.row .vt lo,.row .bool se,.row .vt rs,.row .frame [mkF a b none d s x]] := by
 refine specE ok sh56 rfl ?_;(conv=>whnf);refine tQ ?_;(conv=>whnf);refine ⟨rfl,by simp,?_⟩;(conv=>whnf);refine ⟨⟨(by decide : 1 ≤ maxLen),(by decide : 1 * 96 ≤ 140737488355328)⟩,?_⟩;(conv=>whnf);refine tQ ?_;(conv=>whnf);exact eQ [0,1,2,3,6] (by exact ⟨rfl,rfl⟩)
theorem c_New (l : List El_grp) (ps ls rs : List El_vt) (hl : l.length ≤ 1048576) (hg : ∀ g ∈ l,good_grp 1048576 g) (hp : ps.length ≤ 1048576) (hls : ls.length ≤ 1048576) (hr : rs.length ≤ 1048576) :
    SpecD S 24 [.imm .grp l,.imm .vt ps,.imm .vt ls,.imm .vt rs] [] (.ptr 0 0) (ck l (ps ++ ls) (nwSe ps.length (ps ++ ls) (ps ++ ls).length) rs 0 .whole [] [mkF 2 0 none rs (nwSe ps.length (ps ++ ls) (ps ++ ls).length) false]) := by
 have e1 : List.take ps.length ps ++ ls = ps ++ ls := by rw [List.take_length]
 have e2 : ps.length + ls.length = (ps ++ ls).length := by simp
 have e3 : (ps ++ ls).length ≤ 2097152 := by simp; omega
 generalize hlo : ps ++ ls = lo at e1 e2 e3;refine specE ok sh24 rfl ?_;(conv=>whnf);refine cQ [] (c_keep l hl hg) ?_;(conv=>whnf);refine cQ [] (c_cpO_vt ps hp) ?_;(conv=>whnf);refine ⟨rfl,by simp,⟨by show ps.length + ls.length ≤ maxLen; unfold maxLen; omega,by show (ps.length + ls.length) * 24 ≤ _; omega⟩,rfl,?_⟩;(conv=>whnf);refine cQ [] (c_cpO_vt rs hr) ?_;conv=>whnf
 refine loop_of [.cell 3 3 .bool] [3,1,4,2] (fun vs H => ∃ j : Nat,j ≤ lo.length ∧ vs = nwV ps rs lo.length j ∧ H = nwH l rs lo.length lo (nwSe ps.length lo j))
  (fun vs _ => match vs with | [_,_,_,_,_,.int _ j] => lo.length - j.toNat | _ => 0) (by rfl) (by rfl) (by rfl) (by rfl) ⟨0,Nat.zero_le _,by rw [← e2]; rfl,?_⟩ ?_
 · rw [← e2];show _ = nwH l rs (ps.length + ls.length) lo [];rw [← e1];rfl
 rintro vs H1 ⟨j,hj,rfl,rfl⟩;(conv=>whnf);cases hd : decide ((j : Int) < lo.length)
 · (conv=>whnf);have := of_decide_eq_false hd;obtain rfl : j = lo.length := by omega
   refine cQ [] (c_cpI_vt rs hr) ?_;(conv=>whnf);refine tQ ?_;(conv=>whnf);refine cQ [2] (c_cpR_bool_whole (nwSe ps.length lo lo.length) (nwSe ps.length lo lo.length).length (Nat.le_refl _) (by rw [nwSe_len]; omega)) ?_;(conv=>whnf);rw [List.take_length];refine tQ ?_;(conv=>whnf);refine cQ [0,1,2,3] (c_pushF_N l rs lo.length lo (nwSe ps.length lo lo.length) 2 0 rs (nwSe ps.length lo lo.length) false) ?_;(conv=>whnf);refine endG_of [.cell 0 5 .vt] [0,1,2,3,5,4] (by rfl) (by rfl) (by rfl) (by rfl) ⟨rfl,?_⟩;rfl
 · (conv=>whnf);have hlt := of_decide_eq_true hd;have hw : IntKind.i64.wrap ((j : Int) + 1) = ((j + 1 : Nat) : Int) := wrap_i64 (by omega) (by omega);refine ⟨rfl,by omega,by omega,?_⟩;(conv=>whnf);refine ⟨rfl,by omega,(by decide : 0 + 3 ≤ 3),?_⟩;rw [show lo.getD (0 + Int.toNat (j : Int)) (S.zero .vt) = lo.getD j zvt by rw [Nat.zero_add,Int.toNat_natCast]; rfl];have hs : nwSe ps.length lo (j + 1) = nwSe ps.length lo j ++ [nwE ps.length lo j] := nwSe_succ _ _ _;have hs2 := nwSe_len ps.length lo j;unfold nwE at hs;generalize nwSe ps.length lo j = se at hs hs2;generalize hv : lo.getD j zvt = v at hs;(conv=>whnf);cases hb : decide ((j : Int) < ps.length)
   · rw [hb,Bool.false_or] at hs;(conv=>whnf);refine cQ [] (c_dflT v) ?_;(conv=>whnf);refine tQ ?_;(conv=>whnf);refine tQ ?_;(conv=>whnf);refine ⟨rfl,by simp,?_⟩;(conv=>whnf);refine ⟨rfl,by show 0 + se.length ≤ se.length; omega,⟨by show se.length + 1 ≤ maxLen; unfold maxLen; omega,by show (se.length + 1) * 1 ≤ _; omega⟩,rfl,?_⟩;(conv=>whnf);refine tQ ?_;(conv=>whnf);refine ⟨[0,1,6,3],[],relo_of [0,1,6,3] (by rfl) (by rfl),?_⟩;refine ⟨⟨j + 1,by omega,congrArg (nwV ps rs lo.length) hw,?_⟩,?_⟩
     · rw [hs];show _ = nwH l rs lo.length lo (se ++ [dfl v]);unfold nwH;rw [show (se ++ [dfl v]).length = se.length + 1 by simp];have e4 : se.take se.length = se := List.take_length;conv => rhs; rw [← e4]
       simp only [List.take_length];rfl
     · show lo.length - (IntKind.i64.wrap ((j : Int) + 1)).toNat < lo.length - (j : Int).toNat;rw [hw]; omega
   · rw [hb,Bool.true_or] at hs;(conv=>whnf);refine tQ ?_;(conv=>whnf);refine ⟨rfl,by simp,?_⟩;(conv=>whnf);refine ⟨rfl,by show 0 + se.length ≤ se.length; omega,⟨by show se.length + 1 ≤ maxLen; unfold maxLen; omega,by show (se.length + 1) * 1 ≤ _; omega⟩,rfl,?_⟩;(conv=>whnf);refine tQ ?_;(conv=>whnf);refine ⟨[0,1,6,3],[],relo_of [0,1,6,3] (by rfl) (by rfl),?_⟩;refine ⟨⟨j + 1,by omega,congrArg (nwV ps rs lo.length) hw,?_⟩,?_⟩
     · rw [hs];show _ = nwH l rs lo.length lo (se ++ [true]);unfold nwH;rw [show (se ++ [true]).length = se.length + 1 by simp];have e4 : se.take se.length = se := List.take_length;conv => rhs; rw [← e4]
       simp only [List.take_length];rfl
     · show lo.length - (IntKind.i64.wrap ((j : Int) + 1)).toNat < lo.length - (j : Int).toNat;rw [hw]; omega
variable {l : List El_grp} {lo : List El_vt} {se : List Bool} {re : List El_vt} {op : List El_vt} {fr fs : List El_frame} {f : El_frame} {h m : Nat} {C : Cp}
theorem c_Operands (hC : C ≠ .unk) (hm : m ≤ op.length) (hl : m ≤ 4000000) : SpecD S 13 [.ptr 0 0] (ck l lo se re m C op fr) (.imm .vt (op.take m)) (ck l lo se re m C op fr) := by
 cases C with
 | unk => exact absurd rfl hC
 | full =>
  refine specE ok sh13 rfl ?_;(conv=>whnf);refine cQ [0,1,2,3,4,5] c_none ?_;(conv=>whnf);refine cQ [4] (c_cpR_vt_full op m hm hl) ?_;(conv=>whnf);exact eQ [0,1,2,3,4,5] (by exact ⟨rfl,rfl⟩)
 | whole =>
  refine specE ok sh13 rfl ?_;(conv=>whnf);refine cQ [0,1,2,3,4,5] c_none ?_;(conv=>whnf);refine cQ [4] (c_cpR_vt_whole op m hm hl) ?_;(conv=>whnf);exact eQ [0,1,2,3,4,5] (by exact ⟨rfl,rfl⟩)
theorem c_PopsN (hf : 0 < fr.length) : SpecD S 15 [.ptr 0 0,.nils] (ck l lo se re m C op fr) (.int .i64 0) (ck l lo se re m C op fr) := by
 cases C with
 | unk =>
  refine specE ok sh15 rfl ?_;(conv=>whnf);refine cQ [0,1,2,3,4,5] (c_shut hf) ?_;(conv=>whnf);refine loop_of [] [0,1,2,3,4,5,6] (fun vs H => vs = [.ptr 0 0,.nils,.ptr 6 0,.int .i64 (IntKind.i64.wrap (0 - 1))] ∧ H = ck l lo se re m .unk op fr ++ [.cells [.own .vt 4 0 m .unk]]) (fun _ _ => 0) (by rfl) (by rfl) (by rfl) (by rfl) ⟨rfl,rfl⟩ ?_;rintro vs H1 ⟨rfl,rfl⟩;(conv=>whnf);exact eQ [0,1,2,3,4,5] (by exact ⟨rfl,rfl⟩)
 | full =>
  refine specE ok sh15 rfl ?_;(conv=>whnf);refine cQ [0,1,2,3,4,5] (c_shut hf) ?_;(conv=>whnf);refine loop_of [] [0,1,2,3,4,5,6] (fun vs H => vs = [.ptr 0 0,.nils,.ptr 6 0,.int .i64 (IntKind.i64.wrap (0 - 1))] ∧ H = ck l lo se re m .full op fr ++ [.cells [.own .vt 4 0 m .full]]) (fun _ _ => 0) (by rfl) (by rfl) (by rfl) (by rfl) ⟨rfl,rfl⟩ ?_;rintro vs H1 ⟨rfl,rfl⟩;(conv=>whnf);exact eQ [0,1,2,3,4,5] (by exact ⟨rfl,rfl⟩)
 | whole =>
  refine specE ok sh15 rfl ?_;(conv=>whnf);refine cQ [0,1,2,3,4,5] (c_shut hf) ?_;(conv=>whnf);refine loop_of [] [0,1,2,3,4,5,6] (fun vs H => vs = [.ptr 0 0,.nils,.ptr 6 0,.int .i64 (IntKind.i64.wrap (0 - 1))] ∧ H = ck l lo se re m .whole op fr ++ [.cells [.own .vt 4 0 m .whole]]) (fun _ _ => 0) (by rfl) (by rfl) (by rfl) (by rfl) ⟨rfl,rfl⟩ ?_;rintro vs H1 ⟨rfl,rfl⟩;(conv=>whnf);exact eQ [0,1,2,3,4,5] (by exact ⟨rfl,rfl⟩)
def deadF (f : El_frame) : El_frame := ⟨f.op,f.inn,f.out,f.height,f.sets,true⟩
theorem c_Unr (hf : fs.length ≤ 4000000) (hh : f.height = (h : Int)) (hm : h ≤ m) : SpecD S 67 [.ptr 0 0] (ck l lo se re m C op (fs ++ [f])) (.int .i64 0) (ck l lo se re h .full op (fs ++ [deadF f])) := by
 have hg := getD_last fs f (S.zero .frame);have hs := fun C' => c_shut (l := l) (lo := lo) (se := se) (re := re) (op := op) (fr := fs ++ [f]) (m := m) (C := C') (by simp);have ht := fun C' => c_top (l := l) (lo := lo) (se := se) (re := re) (op := op) (m := m) (C := C') fs f hf;have hset : (fs ++ [f]).set fs.length (deadF f) = fs ++ [deadF f] := by simp
 have hlt : fs.length < (fs ++ [f]).length := by simp
 have hlen : (fs ++ [f]).length = (fs ++ [deadF f]).length := by simp
 have hcut := fun C' => c_cutV (l := l) (lo := lo) (se := se) (re := re) (op := op) (fr := fs ++ [f]) (m := m) (C := C') h hm;obtain ⟨o0,i0,u0,h0,s0,d0⟩ := f;simp only at hh;subst hh;unfold deadF at hset hlen ⊢;simp only at hset hlen ⊢;generalize fs ++ [(⟨o0,i0,u0,(h : Int),s0,d0⟩ : El_frame)] = fr at *;cases i0;all_goals cases u0
 all_goals cases s0
 all_goals cases C
 all_goals
  refine specE ok sh67 rfl ?_;(conv=>whnf);refine cQ [0,1,2,3,4,5] (hs _) ?_;(conv=>whnf);refine cQ [0,1,2,3,4,5] (ht _) ?_;(conv=>whnf);refine ⟨rfl,hlt,(by decide : 3 + 1 ≤ 6),?_⟩;rw [hg];(conv=>whnf);refine cQ [0,1,2,3,4,5] (hcut _) ?_;(conv=>whnf);refine ⟨rfl,hlt,(by decide : 5 + 1 ≤ 6),?_⟩;rw [hg];(conv=>whnf);refine eQ [0,1,2,3,4,5] ⟨rfl,?_⟩;unfold ck;rw [← hlen,← hset];rfl
end Ck
end Sh
end Go.Proofs.YtomdfaelgcefdaaGreatDoor
namespace Go.Proofs.YtomdfaelgcefdaaGreatDoor
open Go
namespace Sh
namespace Ck
variable {l : List El_grp} {lo : List El_vt} {se : List Bool} {re : List El_vt} {op : List El_vt} {fr fs : List El_frame} {f : El_frame} {h m : Nat} {C : Cp}
def ckF (l : List El_grp) (lo : List El_vt) (se : List Bool) (re : List El_vt) (m : Nat) (C : Cp) (op : List El_vt) (fr : List El_frame) : Heap KT ElT :=
 [ckC l lo.length se.length re.length (.own .vt 4 0 m C) (.own .frame 6 0 fr.length .whole),.row .vt lo,.row .bool se,.row .vt re,.row .vt op,.gone,.row .frame fr]
theorem fits_frame {n : Nat} (hn : n ≤ 2097152) : fits S .frame n := by
 refine ⟨by unfold maxLen; omega,?_⟩;show n * 96 ≤ _;omega
theorem c_pushF (hf : fr.length ≤ 2000000) (w h : Int) (a b : List El_vt) (s : List Bool) (d : Bool) : SpecD S 56 [.ptr 0 6,.agg (enc_frame (mkF w h (some a) b s d))] (ck l lo se re m C op fr) (.tup []) (ckF l lo se re m C op (fr ++ [mkF w h (some a) b s d])) := by
 have e : (fr ++ [mkF w h (some a) b s d]).length = fr.length + 1 := by simp
 have e4 : fr.take fr.length = fr := List.take_length;cases C
 all_goals
  refine specE ok sh56 rfl ?_;(conv=>whnf);refine tQ ?_;(conv=>whnf);refine ⟨rfl,by simp,?_⟩;(conv=>whnf);refine ⟨rfl,by simp,fits_frame (by show fr.length + 1 ≤ _; omega),rfl,?_⟩;(conv=>whnf);refine tQ ?_;(conv=>whnf);refine eQ [0,1,2,3,4,5,8] ⟨rfl,?_⟩;unfold ckF;rw [e];conv => rhs; rw [← e4]
  rw [e4];rfl
theorem c_Enter (hf0 : 0 < fr.length) (hf : fr.length ≤ 2000000) (w : Int) (b : List El_vt) (hb : b.length ≤ 1048576) (hs : se.length ≤ 4000000) :
    SpecD S 18 [.ptr 0 0,.int .i64 w,.nils,.imm .vt b] (ck l lo se re m C op fr) (.int .i64 0) (ckF l lo se re m C op (fr ++ [mkF w m (some []) b se false])) := by
 have hpu := c_pushF (l := l) (lo := lo) (se := se) (re := re) (op := op) (fr := fr) (m := m) (C := C) hf w m [] b se false;have hpn := c_PushesN (l := l) (lo := lo) (se := se) (re := re) (op := op) (fr := fr ++ [mkF w m (some []) b se false]) (m := m) (C := C) (by simp);have hse := c_cpR_bool_whole se se.length (Nat.le_refl _) hs;rw [List.take_length] at hse;cases C
 all_goals
  refine specE ok sh18 rfl ?_;(conv=>whnf);refine cQ [0,1,2,3,4,5] ((c_PopsN hf0)) ?_;(conv=>whnf);refine cQ [] c_cpN_vt ?_;(conv=>whnf);refine tQ ?_;(conv=>whnf);refine cQ [] (c_cpI_vt b hb) ?_;(conv=>whnf);refine tQ ?_;(conv=>whnf);refine cQ [0,1,2,3,4,5] c_sizeV ?_;(conv=>whnf);refine tQ ?_;(conv=>whnf);refine cQ [2] hse ?_;(conv=>whnf);refine tQ ?_;(conv=>whnf);refine cQ [0,1,2,3,4,5] hpu ?_;(conv=>whnf);refine cQ [0,1,2,3,4,6] hpn ?_;(conv=>whnf);exact eQ [0,1,2,3,4,5,6] (by exact ⟨rfl,rfl⟩)
 end Ck
 end Sh
 end Go.Proofs.YtomdfaelgcefdaaGreatDoor
namespace Go.Proofs.YtomdfaelgcefdaaGreatDoor
open Go
namespace Sh
namespace Ck
def rlV (l : List El_vt) (a : V) (j : Int) : List V := [.imm .vt l,a,.int .i64 j]
theorem c_rlist0 : SpecD S 89 [.imm .vt []] [] .nils [] := by
 refine specE ok sh89 rfl ?_;(conv=>whnf);refine loop_of [] [] (fun vs H => vs = rlV [] .nils 0 ∧ H = []) (fun vs _ => 0) (by rfl) (by rfl) (by rfl) (by rfl) ⟨rfl,rfl⟩ ?_;rintro vs H1 ⟨rfl,rfl⟩;(conv=>whnf);exact eQ [] (by exact ⟨rfl,rfl⟩)
theorem c_rlist (l : List El_vt) (hl : l.length ≤ 1048576) (hne : l ≠ []) : SpecD S 89 [.imm .vt l] [] (.imm .vt l) [] := by
 have hl0 : 0 < l.length := List.length_pos_iff.2 hne;refine specE ok sh89 rfl ?_;conv=>whnf
 refine loop_of [] [] (fun vs H => ∃ j : Nat,j ≤ l.length ∧ ((j = 0 ∧ vs = rlV l .nils 0 ∧ H = []) ∨ (0 < j ∧ vs = rlV l (.own .vt 0 0 (l.take j).length .whole) j ∧ H = [.row .vt (l.take j)])))
  (fun vs _ => match vs with | [_,_,.int _ j] => l.length - j.toNat | _ => 0) (by rfl) (by rfl) (by rfl) (by rfl) ⟨0,Nat.zero_le _,.inl ⟨rfl,rfl,rfl⟩⟩ ?_
 rintro vs H1 ⟨j,hj,⟨rfl,rfl,rfl⟩ | ⟨hj0,rfl,rfl⟩⟩
 · (conv=>whnf);cases hd : decide ((0 : Int) < l.length)
   · have := of_decide_eq_false hd;omega
   (conv=>whnf);have hy := getD_at hl0 (S.zero .vt);refine ⟨rfl,by omega,by omega,?_⟩;(conv=>whnf);refine ⟨by show 0 < l.length; omega,by decide,?_⟩;rw [show Int.toNat (0 : Int) = 0 from rfl];generalize l.getD 0 (S.zero .vt) = y at hy;(conv=>whnf);refine ⟨rfl,by simp,?_⟩;(conv=>whnf);refine ⟨⟨(by decide : 1 ≤ maxLen),(by decide : 1 * 24 ≤ 140737488355328)⟩,?_⟩;(conv=>whnf);refine ⟨[1],[],relo_of [1] (by rfl) (by rfl),?_⟩;refine ⟨⟨1,by omega,.inr ⟨by omega,?_,?_⟩⟩,?_⟩
   · rw [take_succ' hy]; rfl
   · rw [take_succ' hy]; rfl
   · show l.length - 1 < l.length - 0;omega
 · (conv=>whnf);cases hd : decide ((j : Int) < l.length)
   · (conv=>whnf);have := of_decide_eq_false hd;obtain rfl : j = l.length := by omega
     rw [List.take_length];refine endL_of [] [0] (by rfl) (by rfl) (by rfl) trivial ⟨rfl,by simp⟩ ⟨?_,rfl⟩;show (AV.imm .vt ((l.drop 0).take l.length) : V) = _;rw [drop_take]
   · (conv=>whnf);have := of_decide_eq_true hd;have hw : IntKind.i64.wrap ((j : Int) + 1) = ((j + 1 : Nat) : Int) := wrap_i64 (by omega) (by omega);have hy := getD_at (show j < l.length by omega) (S.zero .vt);refine ⟨rfl,by omega,by omega,?_⟩;(conv=>whnf);refine ⟨by rw [Int.toNat_natCast]; omega,by decide,?_⟩;rw [Int.toNat_natCast];generalize l.getD j (S.zero .vt) = y at hy;have ht : l.take (j + 1) = l.take j ++ [y] := take_succ' hy;have htl : (l.take j).length = j := by simp; omega
     generalize l.take j = xs at ht htl;(conv=>whnf);refine ⟨rfl,by simp,?_⟩;(conv=>whnf);refine ⟨rfl,by show 0 + xs.length ≤ xs.length; omega,⟨by show xs.length + 1 ≤ maxLen; unfold maxLen; omega,by show (xs.length + 1) * 24 ≤ _; omega⟩,rfl,?_⟩;(conv=>whnf);refine ⟨[2],[],relo_of [2] (by rfl) (by rfl),?_⟩;refine ⟨⟨j + 1,by omega,.inr ⟨by omega,?_,?_⟩⟩,?_⟩
     · rw [ht,List.length_append,← hw]; rfl
     · rw [ht];conv => rhs; rw [← List.take_length (l := xs)]
       rfl
     · show l.length - (IntKind.i64.wrap ((j : Int) + 1)).toNat < l.length - (j : Int).toNat;rw [hw]; omega
theorem take_succB {l : List Bool} {j : Nat} {y : Bool} (h : l[j]? = some y) : l.take (j + 1) = l.take j ++ [y] := by rw [List.take_add_one,h]; rfl
def rfW (l : List Bool) (a : V) (j : Int) : List V := [.own .bool 0 0 l.length .whole,a,.int .i64 j]
theorem c_rflags0 : SpecD S 91 [.own .bool 0 0 0 .whole] [.row .bool []] .nils [.row .bool []] := by
 refine specE ok sh91 rfl ?_;(conv=>whnf);refine loop_of [] [0] (fun vs H => vs = rfW [] .nils 0 ∧ H = [.row .bool []]) (fun vs _ => 0) (by rfl) (by rfl) (by rfl) (by rfl) ⟨rfl,rfl⟩ ?_;rintro vs H1 ⟨rfl,rfl⟩;(conv=>whnf);exact eQ [0] (by exact ⟨rfl,rfl⟩)
theorem c_rflags (l : List Bool) (hl : l.length ≤ 2097152) (hne : l ≠ []) : SpecD S 91 [.own .bool 0 0 l.length .whole] [.row .bool l] (.imm .bool l) [.row .bool l] := by
 have hl0 : 0 < l.length := List.length_pos_iff.2 hne;refine specE ok sh91 rfl ?_;conv=>whnf
 refine loop_of [] [0] (fun vs H => ∃ j : Nat,j ≤ l.length ∧ ((j = 0 ∧ vs = rfW l .nils 0 ∧ H = [.row .bool l]) ∨ (0 < j ∧ vs = rfW l (.own .bool 1 0 (l.take j).length .whole) j ∧ H = [.row .bool l,.row .bool (l.take j)])))
  (fun vs _ => match vs with | [_,_,.int _ j] => l.length - j.toNat | _ => 0) (by rfl) (by rfl) (by rfl) (by rfl) ⟨0,Nat.zero_le _,.inl ⟨rfl,rfl,rfl⟩⟩ ?_
 rintro vs H1 ⟨j,hj,⟨rfl,rfl,rfl⟩ | ⟨hj0,rfl,rfl⟩⟩
 · (conv=>whnf);cases hd : decide ((0 : Int) < l.length)
   · have := of_decide_eq_false hd;omega
   (conv=>whnf);have hy := getD_at hl0 (S.zero .bool);refine ⟨rfl,by omega,by omega,?_⟩;(conv=>whnf);refine ⟨rfl,by show 0 < l.length; omega,(by decide : 0 + 1 ≤ 1),?_⟩;rw [show l.getD (0 + Int.toNat (0 : Int)) (S.zero .bool) = l.getD 0 (S.zero .bool) from rfl];generalize l.getD 0 (S.zero .bool) = y at hy;(conv=>whnf);refine ⟨rfl,by simp,?_⟩;(conv=>whnf);refine ⟨⟨(by decide : 1 ≤ maxLen),(by decide : 1 * 1 ≤ 140737488355328)⟩,?_⟩;(conv=>whnf);refine ⟨[0,2],[],relo_of [0,2] (by rfl) (by rfl),?_⟩;refine ⟨⟨1,by omega,.inr ⟨by omega,?_,?_⟩⟩,?_⟩
   · rw [take_succB hy]; rfl
   · rw [take_succB hy]; rfl
   · show l.length - 1 < l.length - 0;omega
 · (conv=>whnf);cases hd : decide ((j : Int) < l.length)
   · (conv=>whnf);have := of_decide_eq_false hd;obtain rfl : j = l.length := by omega
     rw [List.take_length];refine endL_of [0] [1] (by rfl) (by rfl) (by rfl) ⟨trivial,trivial⟩ ⟨rfl,by simp⟩ ⟨?_,rfl⟩;show (AV.imm .bool ((l.drop 0).take l.length) : V) = _;rw [drop_take]
   · (conv=>whnf);have := of_decide_eq_true hd;have hw : IntKind.i64.wrap ((j : Int) + 1) = ((j + 1 : Nat) : Int) := wrap_i64 (by omega) (by omega);have hy := getD_at (show j < l.length by omega) (S.zero .bool);refine ⟨rfl,by omega,by omega,?_⟩;(conv=>whnf);refine ⟨rfl,by omega,(by decide : 0 + 1 ≤ 1),?_⟩;rw [show l.getD (0 + Int.toNat (j : Int)) (S.zero .bool) = l.getD j (S.zero .bool) by rw [Nat.zero_add,Int.toNat_natCast]];generalize l.getD j (S.zero .bool) = y at hy;have ht : l.take (j + 1) = l.take j ++ [y] := take_succB hy;have htl : (l.take j).length = j := by simp; omega
     generalize l.take j = xs at ht htl;(conv=>whnf);refine ⟨rfl,by simp,?_⟩;(conv=>whnf);refine ⟨rfl,by show 0 + xs.length ≤ xs.length; omega,⟨by show xs.length + 1 ≤ maxLen; unfold maxLen; omega,by show (xs.length + 1) * 1 ≤ _; omega⟩,rfl,?_⟩;(conv=>whnf);refine ⟨[0,3],[],relo_of [0,3] (by rfl) (by rfl),?_⟩;refine ⟨⟨j + 1,by omega,.inr ⟨by omega,?_,?_⟩⟩,?_⟩
     · rw [ht,List.length_append,← hw]; rfl
     · rw [ht];conv => rhs; rw [← List.take_length (l := xs)]
       rfl
     · show l.length - (IntKind.i64.wrap ((j : Int) + 1)).toNat < l.length - (j : Int).toNat;rw [hw]; omega
theorem rlistE (rs : List El_vt) (hr : rs.length ≤ 1048576) : ∃ o : Option (List El_vt),SpecD S 89 [.imm .vt rs] [] (slO .vt o) [] := by
 rcases Classical.em (rs = []) with rfl | h
 · exact ⟨none,c_rlist0⟩
 · exact ⟨some rs,c_rlist rs hr h⟩
theorem rflagsE (rs : List Bool) (hr : rs.length ≤ 2097152) : ∃ o : Option (List Bool),SpecD S 91 [.own .bool 0 0 rs.length .whole] [.row .bool rs] (slO .bool o) [.row .bool rs] := by
 rcases Classical.em (rs = []) with rfl | h
 · exact ⟨none,c_rflags0⟩
 · exact ⟨some rs,c_rflags rs hr h⟩
theorem c_rlistN : SpecD S 89 [.nils] [] .nils [] := by
 refine specE ok sh89 rfl ?_;(conv=>whnf);refine loop_of [] [] (fun vs H => vs = [.nils,.nils,.int .i64 0] ∧ H = []) (fun vs _ => 0) (by rfl) (by rfl) (by rfl) (by rfl) ⟨rfl,rfl⟩ ?_;rintro vs H1 ⟨rfl,rfl⟩;(conv=>whnf);exact eQ [] (by exact ⟨rfl,rfl⟩)
def rlW (m : Nat) (C : Cp) (j : Int) (n : Nat) : List V := [.own .vt 0 0 m C,.own .vt 1 0 n .whole,.int .i64 j]
theorem c_rlistO (xs : List El_vt) (m : Nat) (C : Cp) (hm : m ≤ xs.length) (hl : m ≤ 4000000) :
    SpecD S 89 [.own .vt 0 0 m C] [.row .vt xs] (.own .vt 1 0 m .whole) [.row .vt xs,.row .vt (xs.take m)] := by
 have hlen : ∀ j,j ≤ m → (xs.take j).length = j := fun j hj => by simp; omega
 cases C with
 | unk =>
  refine specE ok sh89 rfl ?_;conv=>whnf
  refine loop_of [.slot 3 .vt] [0,1] (fun vs H => ∃ j : Nat,j ≤ m ∧ vs = rlW m .unk j j ∧ H = [.row .vt xs,.row .vt (xs.take j)])
   (fun vs _ => match vs with | [_,_,.int _ j] => m - j.toNat | _ => 0) (by rfl) (by rfl) (by rfl) (by rfl) ⟨0,Nat.zero_le _,rfl,rfl⟩ ?_
  rintro vs H1 ⟨j,hj,rfl,rfl⟩;(conv=>whnf);cases hd : decide ((j : Int) < m)
  · (conv=>whnf);have := of_decide_eq_false hd;obtain rfl : j = m := by omega
    exact eQ [0,1] (by exact ⟨rfl,rfl⟩)
  · (conv=>whnf);have hlt := of_decide_eq_true hd;have hw : IntKind.i64.wrap ((j : Int) + 1) = ((j + 1 : Nat) : Int) := wrap_i64 (by omega) (by omega);have hx := getD_at (show j < xs.length by omega) (S.zero .vt);have ht := take_succ' hx;have hjl := hlen j hj;have e4 : (xs.take j).take j = xs.take j := by rw [List.take_take,Nat.min_self]
    refine ⟨rfl,by omega,by omega,?_⟩;(conv=>whnf);refine ⟨rfl,by omega,by decide,?_⟩;rw [show xs.getD (0 + Int.toNat (j : Int)) (S.zero .vt) = xs.getD j (S.zero .vt) by rw [Nat.zero_add,Int.toNat_natCast]];generalize xs.getD j (S.zero .vt) = y at hx ht;(conv=>whnf);refine ⟨rfl,by simp,?_⟩;(conv=>whnf);refine ⟨rfl,by rw [hjl]; omega,fits_big (by show j + 1 ≤ _; omega) (by decide),rfl,?_⟩;(conv=>whnf);refine ⟨[0,3],[],relo_of [0,3] (by rfl) (by rfl),?_⟩;refine ⟨⟨j + 1,by omega,?_,?_⟩,?_⟩
    · show [AV.own KT.vt 0 0 m .unk,.own .vt 1 0 (j + 1) .whole,.int .i64 (IntKind.i64.wrap ((j : Int) + 1))] = rlW m .unk ((j + 1 : Nat) : Int) (j + 1);rw [hw];rfl
    · rw [ht];conv => rhs; rw [← e4]
      rfl
    · show m - (IntKind.i64.wrap ((j : Int) + 1)).toNat < m - (j : Int).toNat;rw [hw]; omega
 | full =>
  refine specE ok sh89 rfl ?_;conv=>whnf
  refine loop_of [.slot 3 .vt] [0,1] (fun vs H => ∃ j : Nat,j ≤ m ∧ vs = rlW m .full j j ∧ H = [.row .vt xs,.row .vt (xs.take j)])
   (fun vs _ => match vs with | [_,_,.int _ j] => m - j.toNat | _ => 0) (by rfl) (by rfl) (by rfl) (by rfl) ⟨0,Nat.zero_le _,rfl,rfl⟩ ?_
  rintro vs H1 ⟨j,hj,rfl,rfl⟩;(conv=>whnf);cases hd : decide ((j : Int) < m)
  · (conv=>whnf);have := of_decide_eq_false hd;obtain rfl : j = m := by omega
    exact eQ [0,1] (by exact ⟨rfl,rfl⟩)
  · (conv=>whnf);have hlt := of_decide_eq_true hd;have hw : IntKind.i64.wrap ((j : Int) + 1) = ((j + 1 : Nat) : Int) := wrap_i64 (by omega) (by omega);have hx := getD_at (show j < xs.length by omega) (S.zero .vt);have ht := take_succ' hx;have hjl := hlen j hj;have e4 : (xs.take j).take j = xs.take j := by rw [List.take_take,Nat.min_self]
    refine ⟨rfl,by omega,by omega,?_⟩;(conv=>whnf);refine ⟨rfl,by omega,by decide,?_⟩;rw [show xs.getD (0 + Int.toNat (j : Int)) (S.zero .vt) = xs.getD j (S.zero .vt) by rw [Nat.zero_add,Int.toNat_natCast]];generalize xs.getD j (S.zero .vt) = y at hx ht;(conv=>whnf);refine ⟨rfl,by simp,?_⟩;(conv=>whnf);refine ⟨rfl,by rw [hjl]; omega,fits_big (by show j + 1 ≤ _; omega) (by decide),rfl,?_⟩;(conv=>whnf);refine ⟨[0,3],[],relo_of [0,3] (by rfl) (by rfl),?_⟩;refine ⟨⟨j + 1,by omega,?_,?_⟩,?_⟩
    · show [AV.own KT.vt 0 0 m .full,.own .vt 1 0 (j + 1) .whole,.int .i64 (IntKind.i64.wrap ((j : Int) + 1))] = rlW m .full ((j + 1 : Nat) : Int) (j + 1);rw [hw];rfl
    · rw [ht];conv => rhs; rw [← e4]
      rfl
    · show m - (IntKind.i64.wrap ((j : Int) + 1)).toNat < m - (j : Int).toNat;rw [hw]; omega
 | whole =>
  refine specE ok sh89 rfl ?_;conv=>whnf
  refine loop_of [.slot 3 .vt] [0,1] (fun vs H => ∃ j : Nat,j ≤ m ∧ vs = rlW m .whole j j ∧ H = [.row .vt xs,.row .vt (xs.take j)])
   (fun vs _ => match vs with | [_,_,.int _ j] => m - j.toNat | _ => 0) (by rfl) (by rfl) (by rfl) (by rfl) ⟨0,Nat.zero_le _,rfl,rfl⟩ ?_
  rintro vs H1 ⟨j,hj,rfl,rfl⟩;(conv=>whnf);cases hd : decide ((j : Int) < m)
  · (conv=>whnf);have := of_decide_eq_false hd;obtain rfl : j = m := by omega
    exact eQ [0,1] (by exact ⟨rfl,rfl⟩)
  · (conv=>whnf);have hlt := of_decide_eq_true hd;have hw : IntKind.i64.wrap ((j : Int) + 1) = ((j + 1 : Nat) : Int) := wrap_i64 (by omega) (by omega);have hx := getD_at (show j < xs.length by omega) (S.zero .vt);have ht := take_succ' hx;have hjl := hlen j hj;have e4 : (xs.take j).take j = xs.take j := by rw [List.take_take,Nat.min_self]
    refine ⟨rfl,by omega,by omega,?_⟩;(conv=>whnf);refine ⟨rfl,by omega,by decide,?_⟩;rw [show xs.getD (0 + Int.toNat (j : Int)) (S.zero .vt) = xs.getD j (S.zero .vt) by rw [Nat.zero_add,Int.toNat_natCast]];generalize xs.getD j (S.zero .vt) = y at hx ht;(conv=>whnf);refine ⟨rfl,by simp,?_⟩;(conv=>whnf);refine ⟨rfl,by rw [hjl]; omega,fits_big (by show j + 1 ≤ _; omega) (by decide),rfl,?_⟩;(conv=>whnf);refine ⟨[0,3],[],relo_of [0,3] (by rfl) (by rfl),?_⟩;refine ⟨⟨j + 1,by omega,?_,?_⟩,?_⟩
    · show [AV.own KT.vt 0 0 m .whole,.own .vt 1 0 (j + 1) .whole,.int .i64 (IntKind.i64.wrap ((j : Int) + 1))] = rlW m .whole ((j + 1 : Nat) : Int) (j + 1);rw [hw];rfl
    · rw [ht];conv => rhs; rw [← e4]
      rfl
    · show m - (IntKind.i64.wrap ((j : Int) + 1)).toNat < m - (j : Int).toNat;rw [hw]; omega
theorem Spec.nilR {f : Nat} {vs : List V} {H H1 : Heap KT ElT} (k : KT) (h : SpecD S f vs H .nils H1) : SpecD S f vs H (.imm k []) H1 := by
 intro E w args hE hsz hva;refine (h E w args hE hsz hva).mono ?_;rintro e w' ⟨v,r,E',H',rfl,⟨rfl,rfl⟩,hv,hE',hx⟩;refine ⟨v,_,E',_,rfl,⟨rfl,rfl⟩,?_,hE',hx⟩;cases (show VR S E' w' .nils v from hv);exact VR.immNil none 0 (Nat.zero_le _)
theorem c_rlistS (q : List El_vt) (hq : q.length ≤ 1048576) : SpecD S 89 [.imm .vt q] [] (.imm .vt q) [] := by
 rcases Classical.em (q = []) with rfl | h
 · exact Spec.nilR .vt c_rlist0
 · exact c_rlist q hq h
theorem c_rlistM : SpecD S 89 [.nils] [] (.imm .vt []) [] := Spec.nilR .vt c_rlistN
theorem c_rflagsS (q : List Bool) (hq : q.length ≤ 2097152) : SpecD S 91 [.own .bool 0 0 q.length .whole] [.row .bool q] (.imm .bool q) [.row .bool q] := by
 rcases Classical.em (q = []) with rfl | h
 · exact Spec.nilR .bool c_rflags0
 · exact c_rflags q hq h
end Ck
end Sh
end Go.Proofs.YtomdfaelgcefdaaGreatDoor
namespace Go.Proofs.YtomdfaelgcefdaaGreatDoor
open Go
namespace Sh
namespace Ck
def rkC (l : List El_grp) (nl ns : Nat) (o : List El_vt) (O F : V) : AO KT ElT := .cells [.imm .grp l,.own .vt 1 0 nl .whole,.own .bool 2 0 ns .whole,O,F,.imm .vt o]
def rk (l : List El_grp) (lo : List El_vt) (se : List Bool) (o : List El_vt) (st : List El_vt) (m : Nat) (C : Cp) (fr : List El_rframe) (D : Cp) : Heap KT ElT :=
 [rkC l lo.length se.length o (.own .vt 3 0 m C) (.own .rframe 4 0 fr.length D),.row .vt lo,.row .bool se,.row .vt st,.row .rframe fr]
variable {l : List El_grp} {lo : List El_vt} {se : List Bool} {o : List El_vt} {st : List El_vt} {m : Nat} {C D : Cp} {fr : List El_rframe}
structure Gr (lo : List El_vt) (se : List Bool) (o : List El_vt) (st : List El_vt) (m : Nat) (C : Cp) (fr : List El_rframe) (D : Cp) : Prop where
 hC : C ≠ .unk
 hD : D ≠ .unk
 hlo : lo.length ≤ 2097152
 hse : se.length ≤ 2097152
 ho : o.length ≤ 1048576
 hm : m ≤ st.length
 hm2 : m ≤ 4000000
 hf0 : 0 < fr.length
 hf : fr.length ≤ 1048577
 hn : ∀ f ∈ fr,(∃ u,f.out = some u) ∧ (∃ s,f.sets = some s) ∧ f.height = 0
theorem fits_rframe {n : Nat} (hn : n ≤ 2097152) : fits S .rframe n := by
 refine ⟨by unfold maxLen; omega,?_⟩;show n * 96 ≤ _;omega
def rcV (j : Int) : List V := [.ptr 0 0,.ptr 5 0,.int .i64 j]
theorem c_rCopy (G : Gr lo se o st m C fr D) : SpecD S 87 [.ptr 0 0] (rk l lo se o st m C fr D) .cell (rk l lo se o st m C fr D) := by
 obtain ⟨hC,hD,hlo,hse,ho,hm,hm2,hf0,hf,hn⟩ := G;have k1 := c_rlistO lo lo.length .whole (Nat.le_refl _) (by omega);have k2 := c_rflagsS se hse;have k3 := c_rlistO st m C hm hm2;have k4 := c_rlistS o ho
 cases C with
 | unk => exact absurd rfl hC
 | full =>
  cases D with
  | unk => exact absurd rfl hD
  | full =>
   refine specE ok sh87 rfl ?_;(conv=>whnf);refine cQ [1] k1 ?_;(conv=>whnf);refine tQ ?_;(conv=>whnf);refine cQ [2] k2 ?_;(conv=>whnf);refine tQ ?_;(conv=>whnf);refine cQ [3] k3 ?_;(conv=>whnf);refine tQ ?_;(conv=>whnf);refine cQ [] k4 ?_;(conv=>whnf);refine tQ ?_;conv=>whnf
   refine loop_of [.cell 7 4 .rframe] [0,1,2,3,4,7,8] (fun vs H => ∃ (j : Nat) (ys : List El_rframe),j ≤ fr.length ∧ ys.length = j ∧ vs = rcV j ∧ H = rk l lo se o st m .full fr .full ++ [.cells [.imm .grp l,.cell,.imm .bool se,.cell,.own .rframe 6 0 j .whole,.imm .vt o],.row .rframe ys])
    (fun vs _ => match vs with | [_,_,.int _ j] => fr.length - j.toNat | _ => 0) (by rfl) (by rfl) (by rfl) (by rfl) ⟨0,[],Nat.zero_le _,rfl,rfl,rfl⟩ ?_
   rintro vs H1 ⟨j,ys,hj,hys,rfl,rfl⟩;(conv=>whnf);cases hd : decide ((j : Int) < fr.length)
   · (conv=>whnf);exact eQ [0,1,2,3,4] (by exact ⟨rfl,rfl⟩)
   · (conv=>whnf);have hlt := of_decide_eq_true hd;have hw : IntKind.i64.wrap ((j : Int) + 1) = ((j + 1 : Nat) : Int) := wrap_i64 (by omega) (by omega);have hx := getD_at (show j < fr.length by omega) (S.zero .rframe);have hnx := hn _ (List.mem_of_getElem? hx);refine ⟨rfl,by omega,by omega,?_⟩;(conv=>whnf);refine ⟨rfl,by omega,by decide,?_⟩;rw [show fr.getD (0 + Int.toNat (j : Int)) (S.zero .rframe) = fr.getD j (S.zero .rframe) by rw [Nat.zero_add,Int.toNat_natCast]];generalize fr.getD j (S.zero .rframe) = z at hx hnx;obtain ⟨o0,i0,u0,h0,s0,d0⟩ := z;obtain ⟨⟨u,hu⟩,⟨s,hs⟩,_⟩ := hnx;simp only at hu hs;subst hu hs;cases i0
     all_goals
      (conv=>whnf);refine tQ ?_;(conv=>whnf);refine ⟨rfl,by simp,?_⟩;(conv=>whnf);refine ⟨rfl,by rw [hys]; omega,fits_rframe (by show j + 1 ≤ _; omega),rfl,?_⟩;(conv=>whnf);refine tQ ?_;(conv=>whnf);refine ⟨[0,1,2,3,4,5,8],[],relo_of [0,1,2,3,4,5,8] (by rfl) (by rfl),?_⟩;refine ⟨⟨j + 1,_,by omega,?_,congrArg rcV hw,rfl⟩,?_⟩
      · simp; omega
      · show fr.length - (IntKind.i64.wrap ((j : Int) + 1)).toNat < fr.length - (j : Int).toNat;rw [hw]; omega
  | whole =>
   refine specE ok sh87 rfl ?_;(conv=>whnf);refine cQ [1] k1 ?_;(conv=>whnf);refine tQ ?_;(conv=>whnf);refine cQ [2] k2 ?_;(conv=>whnf);refine tQ ?_;(conv=>whnf);refine cQ [3] k3 ?_;(conv=>whnf);refine tQ ?_;(conv=>whnf);refine cQ [] k4 ?_;(conv=>whnf);refine tQ ?_;conv=>whnf
   refine loop_of [.cell 7 4 .rframe] [0,1,2,3,4,7,8] (fun vs H => ∃ (j : Nat) (ys : List El_rframe),j ≤ fr.length ∧ ys.length = j ∧ vs = rcV j ∧ H = rk l lo se o st m .full fr .whole ++ [.cells [.imm .grp l,.cell,.imm .bool se,.cell,.own .rframe 6 0 j .whole,.imm .vt o],.row .rframe ys])
    (fun vs _ => match vs with | [_,_,.int _ j] => fr.length - j.toNat | _ => 0) (by rfl) (by rfl) (by rfl) (by rfl) ⟨0,[],Nat.zero_le _,rfl,rfl,rfl⟩ ?_
   rintro vs H1 ⟨j,ys,hj,hys,rfl,rfl⟩;(conv=>whnf);cases hd : decide ((j : Int) < fr.length)
   · (conv=>whnf);exact eQ [0,1,2,3,4] (by exact ⟨rfl,rfl⟩)
   · (conv=>whnf);have hlt := of_decide_eq_true hd;have hw : IntKind.i64.wrap ((j : Int) + 1) = ((j + 1 : Nat) : Int) := wrap_i64 (by omega) (by omega);have hx := getD_at (show j < fr.length by omega) (S.zero .rframe);have hnx := hn _ (List.mem_of_getElem? hx);refine ⟨rfl,by omega,by omega,?_⟩;(conv=>whnf);refine ⟨rfl,by omega,by decide,?_⟩;rw [show fr.getD (0 + Int.toNat (j : Int)) (S.zero .rframe) = fr.getD j (S.zero .rframe) by rw [Nat.zero_add,Int.toNat_natCast]];generalize fr.getD j (S.zero .rframe) = z at hx hnx;obtain ⟨o0,i0,u0,h0,s0,d0⟩ := z;obtain ⟨⟨u,hu⟩,⟨s,hs⟩,_⟩ := hnx;simp only at hu hs;subst hu hs;cases i0
     all_goals
      (conv=>whnf);refine tQ ?_;(conv=>whnf);refine ⟨rfl,by simp,?_⟩;(conv=>whnf);refine ⟨rfl,by rw [hys]; omega,fits_rframe (by show j + 1 ≤ _; omega),rfl,?_⟩;(conv=>whnf);refine tQ ?_;(conv=>whnf);refine ⟨[0,1,2,3,4,5,8],[],relo_of [0,1,2,3,4,5,8] (by rfl) (by rfl),?_⟩;refine ⟨⟨j + 1,_,by omega,?_,congrArg rcV hw,rfl⟩,?_⟩
      · simp; omega
      · show fr.length - (IntKind.i64.wrap ((j : Int) + 1)).toNat < fr.length - (j : Int).toNat;rw [hw]; omega
 | whole =>
  cases D with
  | unk => exact absurd rfl hD
  | full =>
   refine specE ok sh87 rfl ?_;(conv=>whnf);refine cQ [1] k1 ?_;(conv=>whnf);refine tQ ?_;(conv=>whnf);refine cQ [2] k2 ?_;(conv=>whnf);refine tQ ?_;(conv=>whnf);refine cQ [3] k3 ?_;(conv=>whnf);refine tQ ?_;(conv=>whnf);refine cQ [] k4 ?_;(conv=>whnf);refine tQ ?_;conv=>whnf
   refine loop_of [.cell 7 4 .rframe] [0,1,2,3,4,7,8] (fun vs H => ∃ (j : Nat) (ys : List El_rframe),j ≤ fr.length ∧ ys.length = j ∧ vs = rcV j ∧ H = rk l lo se o st m .whole fr .full ++ [.cells [.imm .grp l,.cell,.imm .bool se,.cell,.own .rframe 6 0 j .whole,.imm .vt o],.row .rframe ys])
    (fun vs _ => match vs with | [_,_,.int _ j] => fr.length - j.toNat | _ => 0) (by rfl) (by rfl) (by rfl) (by rfl) ⟨0,[],Nat.zero_le _,rfl,rfl,rfl⟩ ?_
   rintro vs H1 ⟨j,ys,hj,hys,rfl,rfl⟩;(conv=>whnf);cases hd : decide ((j : Int) < fr.length)
   · (conv=>whnf);exact eQ [0,1,2,3,4] (by exact ⟨rfl,rfl⟩)
   · (conv=>whnf);have hlt := of_decide_eq_true hd;have hw : IntKind.i64.wrap ((j : Int) + 1) = ((j + 1 : Nat) : Int) := wrap_i64 (by omega) (by omega);have hx := getD_at (show j < fr.length by omega) (S.zero .rframe);have hnx := hn _ (List.mem_of_getElem? hx);refine ⟨rfl,by omega,by omega,?_⟩;(conv=>whnf);refine ⟨rfl,by omega,by decide,?_⟩;rw [show fr.getD (0 + Int.toNat (j : Int)) (S.zero .rframe) = fr.getD j (S.zero .rframe) by rw [Nat.zero_add,Int.toNat_natCast]];generalize fr.getD j (S.zero .rframe) = z at hx hnx;obtain ⟨o0,i0,u0,h0,s0,d0⟩ := z;obtain ⟨⟨u,hu⟩,⟨s,hs⟩,_⟩ := hnx;simp only at hu hs;subst hu hs;cases i0
     all_goals
      (conv=>whnf);refine tQ ?_;(conv=>whnf);refine ⟨rfl,by simp,?_⟩;(conv=>whnf);refine ⟨rfl,by rw [hys]; omega,fits_rframe (by show j + 1 ≤ _; omega),rfl,?_⟩;(conv=>whnf);refine tQ ?_;(conv=>whnf);refine ⟨[0,1,2,3,4,5,8],[],relo_of [0,1,2,3,4,5,8] (by rfl) (by rfl),?_⟩;refine ⟨⟨j + 1,_,by omega,?_,congrArg rcV hw,rfl⟩,?_⟩
      · simp; omega
      · show fr.length - (IntKind.i64.wrap ((j : Int) + 1)).toNat < fr.length - (j : Int).toNat;rw [hw]; omega
  | whole =>
   refine specE ok sh87 rfl ?_;(conv=>whnf);refine cQ [1] k1 ?_;(conv=>whnf);refine tQ ?_;(conv=>whnf);refine cQ [2] k2 ?_;(conv=>whnf);refine tQ ?_;(conv=>whnf);refine cQ [3] k3 ?_;(conv=>whnf);refine tQ ?_;(conv=>whnf);refine cQ [] k4 ?_;(conv=>whnf);refine tQ ?_;conv=>whnf
   refine loop_of [.cell 7 4 .rframe] [0,1,2,3,4,7,8] (fun vs H => ∃ (j : Nat) (ys : List El_rframe),j ≤ fr.length ∧ ys.length = j ∧ vs = rcV j ∧ H = rk l lo se o st m .whole fr .whole ++ [.cells [.imm .grp l,.cell,.imm .bool se,.cell,.own .rframe 6 0 j .whole,.imm .vt o],.row .rframe ys])
    (fun vs _ => match vs with | [_,_,.int _ j] => fr.length - j.toNat | _ => 0) (by rfl) (by rfl) (by rfl) (by rfl) ⟨0,[],Nat.zero_le _,rfl,rfl,rfl⟩ ?_
   rintro vs H1 ⟨j,ys,hj,hys,rfl,rfl⟩;(conv=>whnf);cases hd : decide ((j : Int) < fr.length)
   · (conv=>whnf);exact eQ [0,1,2,3,4] (by exact ⟨rfl,rfl⟩)
   · (conv=>whnf);have hlt := of_decide_eq_true hd;have hw : IntKind.i64.wrap ((j : Int) + 1) = ((j + 1 : Nat) : Int) := wrap_i64 (by omega) (by omega);have hx := getD_at (show j < fr.length by omega) (S.zero .rframe);have hnx := hn _ (List.mem_of_getElem? hx);refine ⟨rfl,by omega,by omega,?_⟩;(conv=>whnf);refine ⟨rfl,by omega,by decide,?_⟩;rw [show fr.getD (0 + Int.toNat (j : Int)) (S.zero .rframe) = fr.getD j (S.zero .rframe) by rw [Nat.zero_add,Int.toNat_natCast]];generalize fr.getD j (S.zero .rframe) = z at hx hnx;obtain ⟨o0,i0,u0,h0,s0,d0⟩ := z;obtain ⟨⟨u,hu⟩,⟨s,hs⟩,_⟩ := hnx;simp only at hu hs;subst hu hs;cases i0
     all_goals
      (conv=>whnf);refine tQ ?_;(conv=>whnf);refine ⟨rfl,by simp,?_⟩;(conv=>whnf);refine ⟨rfl,by rw [hys]; omega,fits_rframe (by show j + 1 ≤ _; omega),rfl,?_⟩;(conv=>whnf);refine tQ ?_;(conv=>whnf);refine ⟨[0,1,2,3,4,5,8],[],relo_of [0,1,2,3,4,5,8] (by rfl) (by rfl),?_⟩;refine ⟨⟨j + 1,_,by omega,?_,congrArg rcV hw,rfl⟩,?_⟩
      · simp; omega
      · show fr.length - (IntKind.i64.wrap ((j : Int) + 1)).toNat < fr.length - (j : Int).toNat;rw [hw]; omega
end Ck
end Sh
end Go.Proofs.YtomdfaelgcefdaaGreatDoor
namespace Go.Proofs.YtomdfaelgcefdaaGreatDoor
open Go
namespace Sh
namespace Ck
variable {l : List El_grp} {lo : List El_vt} {se : List Bool} {o : List El_vt} {st : List El_vt} {m : Nat} {C D : Cp} {fr : List El_rframe}
theorem c_rPopsN (G : Gr lo se o st m C fr D) : SpecD S 98 [.ptr 0 0,.nils] (rk l lo se o st m C fr D) (.int .i64 0) (rk l lo se o st m C fr D) := by
 have k := c_rCopy (l := l) G;have e0 : ((fr.length : Int) == 0) = false := beq_eq_false_iff_ne.2 (by have := G.hf0; omega);obtain ⟨hC,hD,hlo,hse,ho,hm,hm2,hf0,hf,hn⟩ := G
 cases C with
 | unk => exact absurd rfl hC
 | full =>
  cases D with
  | unk => exact absurd rfl hD
  | full =>
   refine specE ok sh98 rfl ?_;(conv=>whnf);simp only [e0];(conv=>whnf);refine cQ [0,1,2,3,4] k ?_;(conv=>whnf);refine loop_of [] [0,1,2,3,4] (fun vs H => vs = [.ptr 0 0,.nils,.cell,.int .i64 (IntKind.i64.wrap (0 - 1))] ∧ H = rk l lo se o st m .full fr .full) (fun _ _ => 0) (by rfl) (by rfl) (by rfl) (by rfl) ⟨rfl,rfl⟩ ?_;rintro vs H1 ⟨rfl,rfl⟩;(conv=>whnf);exact eQ [0,1,2,3,4] (by exact ⟨rfl,rfl⟩)
  | whole =>
   refine specE ok sh98 rfl ?_;(conv=>whnf);simp only [e0];(conv=>whnf);refine cQ [0,1,2,3,4] k ?_;(conv=>whnf);refine loop_of [] [0,1,2,3,4] (fun vs H => vs = [.ptr 0 0,.nils,.cell,.int .i64 (IntKind.i64.wrap (0 - 1))] ∧ H = rk l lo se o st m .full fr .whole) (fun _ _ => 0) (by rfl) (by rfl) (by rfl) (by rfl) ⟨rfl,rfl⟩ ?_;rintro vs H1 ⟨rfl,rfl⟩;(conv=>whnf);exact eQ [0,1,2,3,4] (by exact ⟨rfl,rfl⟩)
 | whole =>
  cases D with
  | unk => exact absurd rfl hD
  | full =>
   refine specE ok sh98 rfl ?_;(conv=>whnf);simp only [e0];(conv=>whnf);refine cQ [0,1,2,3,4] k ?_;(conv=>whnf);refine loop_of [] [0,1,2,3,4] (fun vs H => vs = [.ptr 0 0,.nils,.cell,.int .i64 (IntKind.i64.wrap (0 - 1))] ∧ H = rk l lo se o st m .whole fr .full) (fun _ _ => 0) (by rfl) (by rfl) (by rfl) (by rfl) ⟨rfl,rfl⟩ ?_;rintro vs H1 ⟨rfl,rfl⟩;(conv=>whnf);exact eQ [0,1,2,3,4] (by exact ⟨rfl,rfl⟩)
  | whole =>
   refine specE ok sh98 rfl ?_;(conv=>whnf);simp only [e0];(conv=>whnf);refine cQ [0,1,2,3,4] k ?_;(conv=>whnf);refine loop_of [] [0,1,2,3,4] (fun vs H => vs = [.ptr 0 0,.nils,.cell,.int .i64 (IntKind.i64.wrap (0 - 1))] ∧ H = rk l lo se o st m .whole fr .whole) (fun _ _ => 0) (by rfl) (by rfl) (by rfl) (by rfl) ⟨rfl,rfl⟩ ?_;rintro vs H1 ⟨rfl,rfl⟩;(conv=>whnf);exact eQ [0,1,2,3,4] (by exact ⟨rfl,rfl⟩)
theorem c_rPushesN (G : Gr lo se o st m C fr D) : SpecD S 66 [.ptr 0 0,.nils] (rk l lo se o st m C fr D) (.int .i64 0) (rk l lo se o st m C fr D) := by
 have e0 : ((fr.length : Int) == 0) = false := beq_eq_false_iff_ne.2 (by have := G.hf0; omega);obtain ⟨hC,hD,hlo,hse,ho,hm,hm2,hf0,hf,hn⟩ := G
 cases C with
 | unk => exact absurd rfl hC
 | full =>
  cases D with
  | unk => exact absurd rfl hD
  | full =>
   refine specE ok sh66 rfl ?_;(conv=>whnf);simp only [e0];(conv=>whnf);refine loop_of [] [0,1,2,3,4] (fun vs H => vs = [.ptr 0 0,.nils,.int .i64 0] ∧ H = rk l lo se o st m .full fr .full) (fun _ _ => 0) (by rfl) (by rfl) (by rfl) (by rfl) ⟨rfl,rfl⟩ ?_;rintro vs H1 ⟨rfl,rfl⟩;(conv=>whnf);exact eQ [0,1,2,3,4] (by exact ⟨rfl,rfl⟩)
  | whole =>
   refine specE ok sh66 rfl ?_;(conv=>whnf);simp only [e0];(conv=>whnf);refine loop_of [] [0,1,2,3,4] (fun vs H => vs = [.ptr 0 0,.nils,.int .i64 0] ∧ H = rk l lo se o st m .full fr .whole) (fun _ _ => 0) (by rfl) (by rfl) (by rfl) (by rfl) ⟨rfl,rfl⟩ ?_;rintro vs H1 ⟨rfl,rfl⟩;(conv=>whnf);exact eQ [0,1,2,3,4] (by exact ⟨rfl,rfl⟩)
 | whole =>
  cases D with
  | unk => exact absurd rfl hD
  | full =>
   refine specE ok sh66 rfl ?_;(conv=>whnf);simp only [e0];(conv=>whnf);refine loop_of [] [0,1,2,3,4] (fun vs H => vs = [.ptr 0 0,.nils,.int .i64 0] ∧ H = rk l lo se o st m .whole fr .full) (fun _ _ => 0) (by rfl) (by rfl) (by rfl) (by rfl) ⟨rfl,rfl⟩ ?_;rintro vs H1 ⟨rfl,rfl⟩;(conv=>whnf);exact eQ [0,1,2,3,4] (by exact ⟨rfl,rfl⟩)
  | whole =>
   refine specE ok sh66 rfl ?_;(conv=>whnf);simp only [e0];(conv=>whnf);refine loop_of [] [0,1,2,3,4] (fun vs H => vs = [.ptr 0 0,.nils,.int .i64 0] ∧ H = rk l lo se o st m .whole fr .whole) (fun _ _ => 0) (by rfl) (by rfl) (by rfl) (by rfl) ⟨rfl,rfl⟩ ?_;rintro vs H1 ⟨rfl,rfl⟩;(conv=>whnf);exact eQ [0,1,2,3,4] (by exact ⟨rfl,rfl⟩)
def rkB (l : List El_grp) (lo : List El_vt) (se : List Bool) (o : List El_vt) (X : AO KT ElT) (st : List El_vt) (m : Nat) (C : Cp) (fr : List El_rframe) (D : Cp) : Heap KT ElT :=
 [rkC l lo.length se.length o (.own .vt 5 0 m C) (.own .rframe 4 0 fr.length D),.row .vt lo,.row .bool se,X,.row .rframe fr,.row .vt st]
theorem c_rPush (G : Gr lo se o st m C fr D) (v : El_vt) : SpecD S 94 [.ptr 0 0,.agg (enc_vt v)] (rk l lo se o st m C fr D) (.int .i64 0) (rkB l lo se o (.row .vt st) (st.take m ++ [v]) (m + 1) .whole fr D) := by
 have e0 : ((fr.length : Int) == 0) = false := beq_eq_false_iff_ne.2 (by have := G.hf0; omega);obtain ⟨hC,hD,hlo,hse,ho,hm,hm2,hf0,hf,hn⟩ := G;have k := c_rlistO st m C hm hm2;have hl : (st.take m).length = m := by simp; omega
 have e4 : (st.take m).take m = st.take m := by rw [List.take_take,Nat.min_self]
 cases C with
 | unk => exact absurd rfl hC
 | full =>
  cases D with
  | unk => exact absurd rfl hD
  | full =>
   refine specE ok sh94 rfl ?_;(conv=>whnf);simp only [e0];(conv=>whnf);refine ⟨?_,?_⟩
   · (conv=>whnf);refine cQ [3] k ?_;(conv=>whnf);refine tQ ?_;(conv=>whnf);refine tQ ?_;(conv=>whnf);refine ⟨rfl,by simp,?_⟩;(conv=>whnf);refine ⟨rfl,by rw [hl]; omega,fits_big (by show m + 1 ≤ _; omega) (by decide),rfl,?_⟩;(conv=>whnf);refine tQ ?_;(conv=>whnf);refine eQ [0,1,2,3,4,8] ⟨rfl,?_⟩;conv => rhs; rw [← e4]
     rfl
   · (conv=>whnf);refine tQ ?_;(conv=>whnf);refine cQ [3] k ?_;(conv=>whnf);refine tQ ?_;(conv=>whnf);refine ⟨rfl,by simp,?_⟩;(conv=>whnf);refine ⟨rfl,by rw [hl]; omega,fits_big (by show m + 1 ≤ _; omega) (by decide),rfl,?_⟩;(conv=>whnf);refine tQ ?_;(conv=>whnf);refine eQ [0,1,2,3,4,8] ⟨rfl,?_⟩;conv => rhs; rw [← e4]
     rfl
  | whole =>
   refine specE ok sh94 rfl ?_;(conv=>whnf);simp only [e0];(conv=>whnf);refine ⟨?_,?_⟩
   · (conv=>whnf);refine cQ [3] k ?_;(conv=>whnf);refine tQ ?_;(conv=>whnf);refine tQ ?_;(conv=>whnf);refine ⟨rfl,by simp,?_⟩;(conv=>whnf);refine ⟨rfl,by rw [hl]; omega,fits_big (by show m + 1 ≤ _; omega) (by decide),rfl,?_⟩;(conv=>whnf);refine tQ ?_;(conv=>whnf);refine eQ [0,1,2,3,4,8] ⟨rfl,?_⟩;conv => rhs; rw [← e4]
     rfl
   · (conv=>whnf);refine tQ ?_;(conv=>whnf);refine cQ [3] k ?_;(conv=>whnf);refine tQ ?_;(conv=>whnf);refine ⟨rfl,by simp,?_⟩;(conv=>whnf);refine ⟨rfl,by rw [hl]; omega,fits_big (by show m + 1 ≤ _; omega) (by decide),rfl,?_⟩;(conv=>whnf);refine tQ ?_;(conv=>whnf);refine eQ [0,1,2,3,4,8] ⟨rfl,?_⟩;conv => rhs; rw [← e4]
     rfl
 | whole =>
  cases D with
  | unk => exact absurd rfl hD
  | full =>
   refine specE ok sh94 rfl ?_;(conv=>whnf);simp only [e0];(conv=>whnf);refine ⟨?_,?_⟩
   · (conv=>whnf);refine cQ [3] k ?_;(conv=>whnf);refine tQ ?_;(conv=>whnf);refine tQ ?_;(conv=>whnf);refine ⟨rfl,by simp,?_⟩;(conv=>whnf);refine ⟨rfl,by rw [hl]; omega,fits_big (by show m + 1 ≤ _; omega) (by decide),rfl,?_⟩;(conv=>whnf);refine tQ ?_;(conv=>whnf);refine eQ [0,1,2,3,4,8] ⟨rfl,?_⟩;conv => rhs; rw [← e4]
     rfl
   · (conv=>whnf);refine tQ ?_;(conv=>whnf);refine cQ [3] k ?_;(conv=>whnf);refine tQ ?_;(conv=>whnf);refine ⟨rfl,by simp,?_⟩;(conv=>whnf);refine ⟨rfl,by rw [hl]; omega,fits_big (by show m + 1 ≤ _; omega) (by decide),rfl,?_⟩;(conv=>whnf);refine tQ ?_;(conv=>whnf);refine eQ [0,1,2,3,4,8] ⟨rfl,?_⟩;conv => rhs; rw [← e4]
     rfl
  | whole =>
   refine specE ok sh94 rfl ?_;(conv=>whnf);simp only [e0];(conv=>whnf);refine ⟨?_,?_⟩
   · (conv=>whnf);refine cQ [3] k ?_;(conv=>whnf);refine tQ ?_;(conv=>whnf);refine tQ ?_;(conv=>whnf);refine ⟨rfl,by simp,?_⟩;(conv=>whnf);refine ⟨rfl,by rw [hl]; omega,fits_big (by show m + 1 ≤ _; omega) (by decide),rfl,?_⟩;(conv=>whnf);refine tQ ?_;(conv=>whnf);refine eQ [0,1,2,3,4,8] ⟨rfl,?_⟩;conv => rhs; rw [← e4]
     rfl
   · (conv=>whnf);refine tQ ?_;(conv=>whnf);refine cQ [3] k ?_;(conv=>whnf);refine tQ ?_;(conv=>whnf);refine ⟨rfl,by simp,?_⟩;(conv=>whnf);refine ⟨rfl,by rw [hl]; omega,fits_big (by show m + 1 ≤ _; omega) (by decide),rfl,?_⟩;(conv=>whnf);refine tQ ?_;(conv=>whnf);refine eQ [0,1,2,3,4,8] ⟨rfl,?_⟩;conv => rhs; rw [← e4]
     rfl
def puR (q : List El_vt) (j : Int) : List V := [.ptr 0 0,.imm .vt q,.int .i64 j]
theorem c_rPushes0 (G : Gr lo se o st m C fr D) (q : List El_vt) (hq : q.length ≤ 2097152) (hm3 : m ≤ 1048576) : Spec S 66 [.ptr 0 0,.imm .vt q] (rk l lo se o st m C fr D)
    fun r H => r = .int .i64 0 ∧ ((q.length = 0 ∧ H = rk l lo se o st m C fr D) ∨ ∃ st',st'.length = m + q.length ∧ H = rkB l lo se o (.row .vt st) st' (m + q.length) .whole fr D) := by
 have e0 : ((fr.length : Int) == 0) = false := beq_eq_false_iff_ne.2 (by have := G.hf0; omega);have kp := fun v => c_rPush (l := l) G v;have kq := fun st' m' (h1 : m' = st'.length) (h2 : m' ≤ 4000000) v => c_rPush (l := l) (st := st') (m := m') (C := .whole) ⟨by decide,G.hD,G.hlo,G.hse,G.ho,by omega,h2,G.hf0,G.hf,G.hn⟩ v;obtain ⟨hC,hD,hlo,hse,ho,hm,hm2,hf0,hf,hn⟩ := G
 cases C with
 | unk => exact absurd rfl hC
 | full =>
  cases D with
  | unk => exact absurd rfl hD
  | full =>
   refine specE ok sh66 rfl ?_;(conv=>whnf);simp only [e0];conv=>whnf
   refine loop_of [] [0,1,2,3,4] (fun vs H => ∃ j : Nat,j ≤ q.length ∧ vs = puR q j ∧ ((j = 0 ∧ H = rk l lo se o st m .full fr .full) ∨ (0 < j ∧ ∃ st',st'.length = m + j ∧ H = rkB l lo se o (.row .vt st) st' (m + j) .whole fr .full)))
    (fun vs _ => match vs with | [_,_,.int _ j] => q.length - j.toNat | _ => 0) (by rfl) (by rfl) (by rfl) (by rfl) ⟨0,Nat.zero_le _,rfl,.inl ⟨rfl,rfl⟩⟩ ?_
   rintro vs H1 ⟨j,hj,rfl,⟨rfl,rfl⟩ | ⟨hj0,st',hst,rfl⟩⟩
   · (conv=>whnf);cases hd : decide (((0 : Nat) : Int) < q.length)
     · (conv=>whnf);have := of_decide_eq_false hd;exact eQ [0,1,2,3,4] ⟨rfl,.inl ⟨by omega,rfl⟩⟩
     · (conv=>whnf);have := of_decide_eq_true hd;refine ⟨rfl,by omega,by omega,?_⟩;(conv=>whnf);refine ⟨by show 0 < q.length; omega,by decide,?_⟩;generalize q.getD (Int.toNat ((0 : Nat) : Int)) (S.zero .vt) = y;(conv=>whnf);refine cQ [0,1,2,3,4] ((kp y)) ?_;(conv=>whnf);refine ⟨[0,1,2,3,4,5],[],relo_of [0,1,2,3,4,5] (by rfl) (by rfl),?_⟩;refine ⟨⟨1,by omega,rfl,.inr ⟨by omega,_,?_,rfl⟩⟩,?_⟩
       · simp; omega
       · show q.length - 1 < q.length - 0;omega
   · (conv=>whnf);cases hd : decide ((j : Int) < q.length)
     · (conv=>whnf);have := of_decide_eq_false hd;obtain rfl : j = q.length := by omega
       exact eQ [0,1,2,3,4,5] ⟨rfl,.inr ⟨st',hst,rfl⟩⟩
     · (conv=>whnf);have := of_decide_eq_true hd;have hw : IntKind.i64.wrap ((j : Int) + 1) = ((j + 1 : Nat) : Int) := wrap_i64 (by omega) (by omega);refine ⟨rfl,by omega,by omega,?_⟩;(conv=>whnf);refine ⟨by rw [Int.toNat_natCast]; omega,by decide,?_⟩;generalize q.getD (Int.toNat (j : Int)) (S.zero .vt) = y;(conv=>whnf);refine cQ [0,1,2,5,4] ((kq st' (m + j) hst.symm (by omega) y)) ?_;(conv=>whnf);refine ⟨[0,1,2,3,4,6],[],relo_of [0,1,2,3,4,6] (by rfl) (by rfl),?_⟩;refine ⟨⟨j + 1,by omega,congrArg (puR q) hw,.inr ⟨by omega,_,?_,rfl⟩⟩,?_⟩
       · simp; omega
       · show q.length - (IntKind.i64.wrap ((j : Int) + 1)).toNat < q.length - (j : Int).toNat;rw [hw]; omega
  | whole =>
   refine specE ok sh66 rfl ?_;(conv=>whnf);simp only [e0];conv=>whnf
   refine loop_of [] [0,1,2,3,4] (fun vs H => ∃ j : Nat,j ≤ q.length ∧ vs = puR q j ∧ ((j = 0 ∧ H = rk l lo se o st m .full fr .whole) ∨ (0 < j ∧ ∃ st',st'.length = m + j ∧ H = rkB l lo se o (.row .vt st) st' (m + j) .whole fr .whole)))
    (fun vs _ => match vs with | [_,_,.int _ j] => q.length - j.toNat | _ => 0) (by rfl) (by rfl) (by rfl) (by rfl) ⟨0,Nat.zero_le _,rfl,.inl ⟨rfl,rfl⟩⟩ ?_
   rintro vs H1 ⟨j,hj,rfl,⟨rfl,rfl⟩ | ⟨hj0,st',hst,rfl⟩⟩
   · (conv=>whnf);cases hd : decide (((0 : Nat) : Int) < q.length)
     · (conv=>whnf);have := of_decide_eq_false hd;exact eQ [0,1,2,3,4] ⟨rfl,.inl ⟨by omega,rfl⟩⟩
     · (conv=>whnf);have := of_decide_eq_true hd;refine ⟨rfl,by omega,by omega,?_⟩;(conv=>whnf);refine ⟨by show 0 < q.length; omega,by decide,?_⟩;generalize q.getD (Int.toNat ((0 : Nat) : Int)) (S.zero .vt) = y;(conv=>whnf);refine cQ [0,1,2,3,4] ((kp y)) ?_;(conv=>whnf);refine ⟨[0,1,2,3,4,5],[],relo_of [0,1,2,3,4,5] (by rfl) (by rfl),?_⟩;refine ⟨⟨1,by omega,rfl,.inr ⟨by omega,_,?_,rfl⟩⟩,?_⟩
       · simp; omega
       · show q.length - 1 < q.length - 0;omega
   · (conv=>whnf);cases hd : decide ((j : Int) < q.length)
     · (conv=>whnf);have := of_decide_eq_false hd;obtain rfl : j = q.length := by omega
       exact eQ [0,1,2,3,4,5] ⟨rfl,.inr ⟨st',hst,rfl⟩⟩
     · (conv=>whnf);have := of_decide_eq_true hd;have hw : IntKind.i64.wrap ((j : Int) + 1) = ((j + 1 : Nat) : Int) := wrap_i64 (by omega) (by omega);refine ⟨rfl,by omega,by omega,?_⟩;(conv=>whnf);refine ⟨by rw [Int.toNat_natCast]; omega,by decide,?_⟩;generalize q.getD (Int.toNat (j : Int)) (S.zero .vt) = y;(conv=>whnf);refine cQ [0,1,2,5,4] ((kq st' (m + j) hst.symm (by omega) y)) ?_;(conv=>whnf);refine ⟨[0,1,2,3,4,6],[],relo_of [0,1,2,3,4,6] (by rfl) (by rfl),?_⟩;refine ⟨⟨j + 1,by omega,congrArg (puR q) hw,.inr ⟨by omega,_,?_,rfl⟩⟩,?_⟩
       · simp; omega
       · show q.length - (IntKind.i64.wrap ((j : Int) + 1)).toNat < q.length - (j : Int).toNat;rw [hw]; omega
 | whole =>
  cases D with
  | unk => exact absurd rfl hD
  | full =>
   refine specE ok sh66 rfl ?_;(conv=>whnf);simp only [e0];conv=>whnf
   refine loop_of [] [0,1,2,3,4] (fun vs H => ∃ j : Nat,j ≤ q.length ∧ vs = puR q j ∧ ((j = 0 ∧ H = rk l lo se o st m .whole fr .full) ∨ (0 < j ∧ ∃ st',st'.length = m + j ∧ H = rkB l lo se o (.row .vt st) st' (m + j) .whole fr .full)))
    (fun vs _ => match vs with | [_,_,.int _ j] => q.length - j.toNat | _ => 0) (by rfl) (by rfl) (by rfl) (by rfl) ⟨0,Nat.zero_le _,rfl,.inl ⟨rfl,rfl⟩⟩ ?_
   rintro vs H1 ⟨j,hj,rfl,⟨rfl,rfl⟩ | ⟨hj0,st',hst,rfl⟩⟩
   · (conv=>whnf);cases hd : decide (((0 : Nat) : Int) < q.length)
     · (conv=>whnf);have := of_decide_eq_false hd;exact eQ [0,1,2,3,4] ⟨rfl,.inl ⟨by omega,rfl⟩⟩
     · (conv=>whnf);have := of_decide_eq_true hd;refine ⟨rfl,by omega,by omega,?_⟩;(conv=>whnf);refine ⟨by show 0 < q.length; omega,by decide,?_⟩;generalize q.getD (Int.toNat ((0 : Nat) : Int)) (S.zero .vt) = y;(conv=>whnf);refine cQ [0,1,2,3,4] ((kp y)) ?_;(conv=>whnf);refine ⟨[0,1,2,3,4,5],[],relo_of [0,1,2,3,4,5] (by rfl) (by rfl),?_⟩;refine ⟨⟨1,by omega,rfl,.inr ⟨by omega,_,?_,rfl⟩⟩,?_⟩
       · simp; omega
       · show q.length - 1 < q.length - 0;omega
   · (conv=>whnf);cases hd : decide ((j : Int) < q.length)
     · (conv=>whnf);have := of_decide_eq_false hd;obtain rfl : j = q.length := by omega
       exact eQ [0,1,2,3,4,5] ⟨rfl,.inr ⟨st',hst,rfl⟩⟩
     · (conv=>whnf);have := of_decide_eq_true hd;have hw : IntKind.i64.wrap ((j : Int) + 1) = ((j + 1 : Nat) : Int) := wrap_i64 (by omega) (by omega);refine ⟨rfl,by omega,by omega,?_⟩;(conv=>whnf);refine ⟨by rw [Int.toNat_natCast]; omega,by decide,?_⟩;generalize q.getD (Int.toNat (j : Int)) (S.zero .vt) = y;(conv=>whnf);refine cQ [0,1,2,5,4] ((kq st' (m + j) hst.symm (by omega) y)) ?_;(conv=>whnf);refine ⟨[0,1,2,3,4,6],[],relo_of [0,1,2,3,4,6] (by rfl) (by rfl),?_⟩;refine ⟨⟨j + 1,by omega,congrArg (puR q) hw,.inr ⟨by omega,_,?_,rfl⟩⟩,?_⟩
       · simp; omega
       · show q.length - (IntKind.i64.wrap ((j : Int) + 1)).toNat < q.length - (j : Int).toNat;rw [hw]; omega
  | whole =>
   refine specE ok sh66 rfl ?_;(conv=>whnf);simp only [e0];conv=>whnf
   refine loop_of [] [0,1,2,3,4] (fun vs H => ∃ j : Nat,j ≤ q.length ∧ vs = puR q j ∧ ((j = 0 ∧ H = rk l lo se o st m .whole fr .whole) ∨ (0 < j ∧ ∃ st',st'.length = m + j ∧ H = rkB l lo se o (.row .vt st) st' (m + j) .whole fr .whole)))
    (fun vs _ => match vs with | [_,_,.int _ j] => q.length - j.toNat | _ => 0) (by rfl) (by rfl) (by rfl) (by rfl) ⟨0,Nat.zero_le _,rfl,.inl ⟨rfl,rfl⟩⟩ ?_
   rintro vs H1 ⟨j,hj,rfl,⟨rfl,rfl⟩ | ⟨hj0,st',hst,rfl⟩⟩
   · (conv=>whnf);cases hd : decide (((0 : Nat) : Int) < q.length)
     · (conv=>whnf);have := of_decide_eq_false hd;exact eQ [0,1,2,3,4] ⟨rfl,.inl ⟨by omega,rfl⟩⟩
     · (conv=>whnf);have := of_decide_eq_true hd;refine ⟨rfl,by omega,by omega,?_⟩;(conv=>whnf);refine ⟨by show 0 < q.length; omega,by decide,?_⟩;generalize q.getD (Int.toNat ((0 : Nat) : Int)) (S.zero .vt) = y;(conv=>whnf);refine cQ [0,1,2,3,4] ((kp y)) ?_;(conv=>whnf);refine ⟨[0,1,2,3,4,5],[],relo_of [0,1,2,3,4,5] (by rfl) (by rfl),?_⟩;refine ⟨⟨1,by omega,rfl,.inr ⟨by omega,_,?_,rfl⟩⟩,?_⟩
       · simp; omega
       · show q.length - 1 < q.length - 0;omega
   · (conv=>whnf);cases hd : decide ((j : Int) < q.length)
     · (conv=>whnf);have := of_decide_eq_false hd;obtain rfl : j = q.length := by omega
       exact eQ [0,1,2,3,4,5] ⟨rfl,.inr ⟨st',hst,rfl⟩⟩
     · (conv=>whnf);have := of_decide_eq_true hd;have hw : IntKind.i64.wrap ((j : Int) + 1) = ((j + 1 : Nat) : Int) := wrap_i64 (by omega) (by omega);refine ⟨rfl,by omega,by omega,?_⟩;(conv=>whnf);refine ⟨by rw [Int.toNat_natCast]; omega,by decide,?_⟩;generalize q.getD (Int.toNat (j : Int)) (S.zero .vt) = y;(conv=>whnf);refine cQ [0,1,2,5,4] ((kq st' (m + j) hst.symm (by omega) y)) ?_;(conv=>whnf);refine ⟨[0,1,2,3,4,6],[],relo_of [0,1,2,3,4,6] (by rfl) (by rfl),?_⟩;refine ⟨⟨j + 1,by omega,congrArg (puR q) hw,.inr ⟨by omega,_,?_,rfl⟩⟩,?_⟩
       · simp; omega
       · show q.length - (IntKind.i64.wrap ((j : Int) + 1)).toNat < q.length - (j : Int).toNat;rw [hw]; omega
theorem c_rPushes (G : Gr lo se o st m C fr D) (q : List El_vt) (hq : q.length ≤ 2097152) (hm3 : m ≤ 1048576) : Spec S 66 [.ptr 0 0,.imm .vt q] (rk l lo se o st m C fr D)
    fun r H => r = .int .i64 0 ∧ ∃ st' C',C' ≠ .unk ∧ m + q.length ≤ st'.length ∧ H = rkB l lo se o .gone st' (m + q.length) C' fr D := by
 have h1 : Spec S 66 [.ptr 0 0,.imm .vt q] (rk l lo se o st m C fr D)
     fun r H => r = .int .i64 0 ∧ ((q.length = 0 ∧ H = rk l lo se o st m C fr D) ∨ ∃ st',st'.length = m + q.length ∧ H = rkB l lo se o .gone st' (m + q.length) .whole fr D) := by
  refine Spec.fade (c_rPushes0 G q hq hm3) ?_;rintro r H' ⟨rfl,⟨h0,rfl⟩ | ⟨st',h1,rfl⟩⟩
  · exact ⟨_,⟨rfl,fun i o h => .inr h⟩,rfl,.inl ⟨h0,rfl⟩⟩
  · refine ⟨rkB l lo se o .gone st' (m + q.length) .whole fr D,⟨rfl,fun i o h => ?_⟩,rfl,.inr ⟨st',h1,rfl⟩⟩
    match i,h with
    | 0,h => exact .inr h
    | 1,h => exact .inr h
    | 2,h => exact .inr h
    | 3,h => cases h; exact .inl rfl
    | 4,h => exact .inr h
    | 5,h => exact .inr h
 refine Spec.relo ok [0,1,2,3,4] [] (by rfl) (okT_nil _ _ _) (okH_nil _ _ _) h1 ?_;rintro r H' ⟨rfl,⟨h0,rfl⟩ | ⟨st',h1,rfl⟩⟩
 · exact ⟨1,[0,1,2,5,4,3],rfl,rfl,rfl,st,C,G.hC,by have := G.hm; omega,by rw [h0]; rfl⟩
 · exact ⟨0,[0,1,2,3,4,5],rfl,rfl,rfl,st',.whole,by decide,by omega,rfl⟩
end Ck
end Sh
end Go.Proofs.YtomdfaelgcefdaaGreatDoor
