/- CrE. -/
import Derived.Test.YtomdfaelgcefdaaGreatDoorGbc
set_option maxRecDepth 100000
set_option maxHeartbeats 64000000
namespace Go.Proofs.YtomdfaelgcefdaaGreatDoor
open Go
namespace Sh
namespace Ck
variable {l : List El_grp} {lo : List El_vt} {se : List Bool} {o : List El_vt} {st : List El_vt} {m : Nat} {C D : Cp} {fr : List El_rframe}
def NrF (f : El_rframe) : Prop := (∃ u,f.out = some u) ∧ (∃ s,f.sets = some s) ∧ f.height = 0
def rkE (l : List El_grp) (lo : List El_vt) (se : List Bool) (o : List El_vt) (st : List El_vt) (m : Nat) (C : Cp) (X : AO KT ElT) (fr : List El_rframe) (D : Cp) : Heap KT ElT :=
 [rkC l lo.length se.length o (.own .vt 3 0 m C) (.own .rframe 5 0 fr.length D),.row .vt lo,.row .bool se,.row .vt st,X,.row .rframe fr]
def reV (w : Int) (b : List El_vt) (j : Int) (n : Nat) : List V := [.ptr 0 0,.int .i64 w,.nils,.imm .vt b,.own .rframe 5 0 n .whole,.int .i64 j]
theorem c_rEnter (G : Gr lo se o st 0 C fr D) (w : Int) (b : List El_vt) (hb : b.length ≤ 1048576) (hf2 : fr.length ≤ 1048576) : SpecD S 65 [.ptr 0 0,.int .i64 w,.nils,.imm .vt b] (rk l lo se o st 0 C fr D) (.int .i64 0) (rkE l lo se o st 0 C (.row .rframe fr) (fr ++ [⟨w,some [],some b,0,some se,false⟩]) .whole) := by
 have e0 : ((fr.length : Int) == 0) = false := beq_eq_false_iff_ne.2 (by have := G.hf0; omega);have kpn := c_rPopsN (l := l) G;have kb := c_rlistS b hb;have kn := c_rlistM;have ks := c_rflagsS se G.hse;have hfl : (fr ++ [(⟨w,some [],some b,0,some se,false⟩ : El_rframe)]).length = fr.length + 1 := by simp
 have kpu := c_rPushesN (l := l) (lo := lo) (se := se) (o := o) (st := st) (m := 0) (C := C) (fr := fr ++ [⟨w,some [],some b,0,some se,false⟩]) (D := .whole) ⟨G.hC,by decide,G.hlo,G.hse,G.ho,G.hm,G.hm2,by simp,by simp; omega,fun f hf => by
  rcases List.mem_append.1 hf with h | h
  · exact G.hn f h
  · simp only [List.mem_singleton] at h; subst h; exact ⟨⟨b,rfl⟩,⟨se,rfl⟩,rfl⟩⟩
 obtain ⟨hC,hD,hlo,hse,ho,hm,hm2,hf0,hf,hn⟩ := G;have htl : ∀ j,j ≤ fr.length → (fr.take j).length = j := fun j hj => by simp; omega
 have e4 : ∀ j,(fr.take j).take j = fr.take j := fun j => by rw [List.take_take,Nat.min_self]
 cases C with
 | unk => exact absurd rfl hC
 | full =>
  cases D with
  | unk => exact absurd rfl hD
  | full =>
   refine specE ok sh65 rfl ?_;(conv=>whnf);refine cQ [0,1,2,3,4] kpn ?_;conv=>whnf
   refine loop_of [.slot 10 .rframe] [0,1,2,3,4,5] (fun vs H => ∃ j : Nat,j ≤ fr.length ∧ vs = reV w b j j ∧ H = rk l lo se o st 0 .full fr .full ++ [.row .rframe (fr.take j)])
    (fun vs _ => match vs with | [_,_,_,_,_,.int _ j] => fr.length - j.toNat | _ => 0) (by rfl) (by rfl) (by rfl) (by rfl) ⟨0,Nat.zero_le _,rfl,rfl⟩ ?_
   rintro vs H1 ⟨j,hj,rfl,rfl⟩;(conv=>whnf);cases hd : decide ((j : Int) < fr.length)
   · (conv=>whnf);have := of_decide_eq_false hd;obtain rfl : j = fr.length := by omega
     rw [List.take_length];refine cQ [] kn ?_;(conv=>whnf);refine tQ ?_;(conv=>whnf);refine cQ [] kb ?_;(conv=>whnf);refine tQ ?_;(conv=>whnf);refine cQ [2] ks ?_;(conv=>whnf);refine tQ ?_;(conv=>whnf);refine tQ ?_;(conv=>whnf);refine ⟨rfl,by simp,?_⟩;(conv=>whnf);refine ⟨rfl,by simp,fits_rframe (by show fr.length + 1 ≤ _; omega),rfl,?_⟩;(conv=>whnf);refine tQ ?_;conv=>whnf
     have kpu2 : SpecD S 66 [.ptr 0 0,.nils] [rkC l lo.length se.length o (.own .vt 3 0 0 .full) (.own .rframe 4 0 (fr.length + 1) .whole),.row .vt lo,.row .bool se,.row .vt st,.row .rframe (fr.take fr.length ++ [⟨w,some [],some b,0,some se,false⟩])] (.int .i64 0) [rkC l lo.length se.length o (.own .vt 3 0 0 .full) (.own .rframe 4 0 (fr.length + 1) .whole),.row .vt lo,.row .bool se,.row .vt st,.row .rframe (fr.take fr.length ++ [⟨w,some [],some b,0,some se,false⟩])] := by
      have k := kpu;unfold rk at k;rw [hfl] at k;rw [List.take_length];exact k
     refine cQ [0,1,2,3,7] kpu2 ?_;(conv=>whnf);refine eQ [0,1,2,3,4,7] ⟨rfl,?_⟩;unfold rkE;rw [hfl];conv => rhs; rw [← List.take_length (l := fr)]
     rw [List.take_length];rfl
   · (conv=>whnf);have hlt := of_decide_eq_true hd;have hw : IntKind.i64.wrap ((j : Int) + 1) = ((j + 1 : Nat) : Int) := wrap_i64 (by omega) (by omega);have hx := getD_at (show j < fr.length by omega) (S.zero .rframe);have hnx := hn _ (List.mem_of_getElem? hx);have ht : fr.take (j + 1) = fr.take j ++ [fr.getD j (S.zero .rframe)] := by rw [List.take_add_one,hx]; rfl
     refine ⟨rfl,by omega,by omega,?_⟩;(conv=>whnf);refine ⟨rfl,by omega,by decide,?_⟩;rw [show fr.getD (0 + Int.toNat (j : Int)) (S.zero .rframe) = fr.getD j (S.zero .rframe) by rw [Nat.zero_add,Int.toNat_natCast]];generalize fr.getD j (S.zero .rframe) = z at hx hnx ht;obtain ⟨o0,i0,u0,h0,s0,d0⟩ := z;obtain ⟨⟨u,hu⟩,⟨s,hs⟩,_⟩ := hnx;simp only at hu hs;subst hu hs;cases i0
     all_goals
      (conv=>whnf);refine ⟨rfl,by simp,?_⟩;(conv=>whnf);refine ⟨rfl,by rw [htl j hj]; omega,fits_rframe (by show j + 1 ≤ _; omega),rfl,?_⟩;(conv=>whnf);refine ⟨[0,1,2,3,4,7],[],relo_of [0,1,2,3,4,7] (by rfl) (by rfl),?_⟩;refine ⟨⟨j + 1,by omega,?_,?_⟩,?_⟩
      · show [AV.ptr 0 0,.int .i64 w,.nils,.imm .vt b,.own .rframe 5 0 (j + 1) .whole,.int .i64 (IntKind.i64.wrap ((j : Int) + 1))] = reV w b ((j + 1 : Nat) : Int) (j + 1);rw [hw];rfl
      · rw [ht];conv => rhs; rw [← e4 j]
        rfl
      · show fr.length - (IntKind.i64.wrap ((j : Int) + 1)).toNat < fr.length - (j : Int).toNat;rw [hw]; omega
  | whole =>
   refine specE ok sh65 rfl ?_;(conv=>whnf);refine cQ [0,1,2,3,4] kpn ?_;conv=>whnf
   refine loop_of [.slot 10 .rframe] [0,1,2,3,4,5] (fun vs H => ∃ j : Nat,j ≤ fr.length ∧ vs = reV w b j j ∧ H = rk l lo se o st 0 .full fr .whole ++ [.row .rframe (fr.take j)])
    (fun vs _ => match vs with | [_,_,_,_,_,.int _ j] => fr.length - j.toNat | _ => 0) (by rfl) (by rfl) (by rfl) (by rfl) ⟨0,Nat.zero_le _,rfl,rfl⟩ ?_
   rintro vs H1 ⟨j,hj,rfl,rfl⟩;(conv=>whnf);cases hd : decide ((j : Int) < fr.length)
   · (conv=>whnf);have := of_decide_eq_false hd;obtain rfl : j = fr.length := by omega
     rw [List.take_length];refine cQ [] kn ?_;(conv=>whnf);refine tQ ?_;(conv=>whnf);refine cQ [] kb ?_;(conv=>whnf);refine tQ ?_;(conv=>whnf);refine cQ [2] ks ?_;(conv=>whnf);refine tQ ?_;(conv=>whnf);refine tQ ?_;(conv=>whnf);refine ⟨rfl,by simp,?_⟩;(conv=>whnf);refine ⟨rfl,by simp,fits_rframe (by show fr.length + 1 ≤ _; omega),rfl,?_⟩;(conv=>whnf);refine tQ ?_;conv=>whnf
     have kpu2 : SpecD S 66 [.ptr 0 0,.nils] [rkC l lo.length se.length o (.own .vt 3 0 0 .full) (.own .rframe 4 0 (fr.length + 1) .whole),.row .vt lo,.row .bool se,.row .vt st,.row .rframe (fr.take fr.length ++ [⟨w,some [],some b,0,some se,false⟩])] (.int .i64 0) [rkC l lo.length se.length o (.own .vt 3 0 0 .full) (.own .rframe 4 0 (fr.length + 1) .whole),.row .vt lo,.row .bool se,.row .vt st,.row .rframe (fr.take fr.length ++ [⟨w,some [],some b,0,some se,false⟩])] := by
      have k := kpu;unfold rk at k;rw [hfl] at k;rw [List.take_length];exact k
     refine cQ [0,1,2,3,7] kpu2 ?_;(conv=>whnf);refine eQ [0,1,2,3,4,7] ⟨rfl,?_⟩;unfold rkE;rw [hfl];conv => rhs; rw [← List.take_length (l := fr)]
     rw [List.take_length];rfl
   · (conv=>whnf);have hlt := of_decide_eq_true hd;have hw : IntKind.i64.wrap ((j : Int) + 1) = ((j + 1 : Nat) : Int) := wrap_i64 (by omega) (by omega);have hx := getD_at (show j < fr.length by omega) (S.zero .rframe);have hnx := hn _ (List.mem_of_getElem? hx);have ht : fr.take (j + 1) = fr.take j ++ [fr.getD j (S.zero .rframe)] := by rw [List.take_add_one,hx]; rfl
     refine ⟨rfl,by omega,by omega,?_⟩;(conv=>whnf);refine ⟨rfl,by omega,by decide,?_⟩;rw [show fr.getD (0 + Int.toNat (j : Int)) (S.zero .rframe) = fr.getD j (S.zero .rframe) by rw [Nat.zero_add,Int.toNat_natCast]];generalize fr.getD j (S.zero .rframe) = z at hx hnx ht;obtain ⟨o0,i0,u0,h0,s0,d0⟩ := z;obtain ⟨⟨u,hu⟩,⟨s,hs⟩,_⟩ := hnx;simp only at hu hs;subst hu hs;cases i0
     all_goals
      (conv=>whnf);refine ⟨rfl,by simp,?_⟩;(conv=>whnf);refine ⟨rfl,by rw [htl j hj]; omega,fits_rframe (by show j + 1 ≤ _; omega),rfl,?_⟩;(conv=>whnf);refine ⟨[0,1,2,3,4,7],[],relo_of [0,1,2,3,4,7] (by rfl) (by rfl),?_⟩;refine ⟨⟨j + 1,by omega,?_,?_⟩,?_⟩
      · show [AV.ptr 0 0,.int .i64 w,.nils,.imm .vt b,.own .rframe 5 0 (j + 1) .whole,.int .i64 (IntKind.i64.wrap ((j : Int) + 1))] = reV w b ((j + 1 : Nat) : Int) (j + 1);rw [hw];rfl
      · rw [ht];conv => rhs; rw [← e4 j]
        rfl
      · show fr.length - (IntKind.i64.wrap ((j : Int) + 1)).toNat < fr.length - (j : Int).toNat;rw [hw]; omega
 | whole =>
  cases D with
  | unk => exact absurd rfl hD
  | full =>
   refine specE ok sh65 rfl ?_;(conv=>whnf);refine cQ [0,1,2,3,4] kpn ?_;conv=>whnf
   refine loop_of [.slot 10 .rframe] [0,1,2,3,4,5] (fun vs H => ∃ j : Nat,j ≤ fr.length ∧ vs = reV w b j j ∧ H = rk l lo se o st 0 .whole fr .full ++ [.row .rframe (fr.take j)])
    (fun vs _ => match vs with | [_,_,_,_,_,.int _ j] => fr.length - j.toNat | _ => 0) (by rfl) (by rfl) (by rfl) (by rfl) ⟨0,Nat.zero_le _,rfl,rfl⟩ ?_
   rintro vs H1 ⟨j,hj,rfl,rfl⟩;(conv=>whnf);cases hd : decide ((j : Int) < fr.length)
   · (conv=>whnf);have := of_decide_eq_false hd;obtain rfl : j = fr.length := by omega
     rw [List.take_length];refine cQ [] kn ?_;(conv=>whnf);refine tQ ?_;(conv=>whnf);refine cQ [] kb ?_;(conv=>whnf);refine tQ ?_;(conv=>whnf);refine cQ [2] ks ?_;(conv=>whnf);refine tQ ?_;(conv=>whnf);refine tQ ?_;(conv=>whnf);refine ⟨rfl,by simp,?_⟩;(conv=>whnf);refine ⟨rfl,by simp,fits_rframe (by show fr.length + 1 ≤ _; omega),rfl,?_⟩;(conv=>whnf);refine tQ ?_;conv=>whnf
     have kpu2 : SpecD S 66 [.ptr 0 0,.nils] [rkC l lo.length se.length o (.own .vt 3 0 0 .whole) (.own .rframe 4 0 (fr.length + 1) .whole),.row .vt lo,.row .bool se,.row .vt st,.row .rframe (fr.take fr.length ++ [⟨w,some [],some b,0,some se,false⟩])] (.int .i64 0) [rkC l lo.length se.length o (.own .vt 3 0 0 .whole) (.own .rframe 4 0 (fr.length + 1) .whole),.row .vt lo,.row .bool se,.row .vt st,.row .rframe (fr.take fr.length ++ [⟨w,some [],some b,0,some se,false⟩])] := by
      have k := kpu;unfold rk at k;rw [hfl] at k;rw [List.take_length];exact k
     refine cQ [0,1,2,3,7] kpu2 ?_;(conv=>whnf);refine eQ [0,1,2,3,4,7] ⟨rfl,?_⟩;unfold rkE;rw [hfl];conv => rhs; rw [← List.take_length (l := fr)]
     rw [List.take_length];rfl
   · (conv=>whnf);have hlt := of_decide_eq_true hd;have hw : IntKind.i64.wrap ((j : Int) + 1) = ((j + 1 : Nat) : Int) := wrap_i64 (by omega) (by omega);have hx := getD_at (show j < fr.length by omega) (S.zero .rframe);have hnx := hn _ (List.mem_of_getElem? hx);have ht : fr.take (j + 1) = fr.take j ++ [fr.getD j (S.zero .rframe)] := by rw [List.take_add_one,hx]; rfl
     refine ⟨rfl,by omega,by omega,?_⟩;(conv=>whnf);refine ⟨rfl,by omega,by decide,?_⟩;rw [show fr.getD (0 + Int.toNat (j : Int)) (S.zero .rframe) = fr.getD j (S.zero .rframe) by rw [Nat.zero_add,Int.toNat_natCast]];generalize fr.getD j (S.zero .rframe) = z at hx hnx ht;obtain ⟨o0,i0,u0,h0,s0,d0⟩ := z;obtain ⟨⟨u,hu⟩,⟨s,hs⟩,_⟩ := hnx;simp only at hu hs;subst hu hs;cases i0
     all_goals
      (conv=>whnf);refine ⟨rfl,by simp,?_⟩;(conv=>whnf);refine ⟨rfl,by rw [htl j hj]; omega,fits_rframe (by show j + 1 ≤ _; omega),rfl,?_⟩;(conv=>whnf);refine ⟨[0,1,2,3,4,7],[],relo_of [0,1,2,3,4,7] (by rfl) (by rfl),?_⟩;refine ⟨⟨j + 1,by omega,?_,?_⟩,?_⟩
      · show [AV.ptr 0 0,.int .i64 w,.nils,.imm .vt b,.own .rframe 5 0 (j + 1) .whole,.int .i64 (IntKind.i64.wrap ((j : Int) + 1))] = reV w b ((j + 1 : Nat) : Int) (j + 1);rw [hw];rfl
      · rw [ht];conv => rhs; rw [← e4 j]
        rfl
      · show fr.length - (IntKind.i64.wrap ((j : Int) + 1)).toNat < fr.length - (j : Int).toNat;rw [hw]; omega
  | whole =>
   refine specE ok sh65 rfl ?_;(conv=>whnf);refine cQ [0,1,2,3,4] kpn ?_;conv=>whnf
   refine loop_of [.slot 10 .rframe] [0,1,2,3,4,5] (fun vs H => ∃ j : Nat,j ≤ fr.length ∧ vs = reV w b j j ∧ H = rk l lo se o st 0 .whole fr .whole ++ [.row .rframe (fr.take j)])
    (fun vs _ => match vs with | [_,_,_,_,_,.int _ j] => fr.length - j.toNat | _ => 0) (by rfl) (by rfl) (by rfl) (by rfl) ⟨0,Nat.zero_le _,rfl,rfl⟩ ?_
   rintro vs H1 ⟨j,hj,rfl,rfl⟩;(conv=>whnf);cases hd : decide ((j : Int) < fr.length)
   · (conv=>whnf);have := of_decide_eq_false hd;obtain rfl : j = fr.length := by omega
     rw [List.take_length];refine cQ [] kn ?_;(conv=>whnf);refine tQ ?_;(conv=>whnf);refine cQ [] kb ?_;(conv=>whnf);refine tQ ?_;(conv=>whnf);refine cQ [2] ks ?_;(conv=>whnf);refine tQ ?_;(conv=>whnf);refine tQ ?_;(conv=>whnf);refine ⟨rfl,by simp,?_⟩;(conv=>whnf);refine ⟨rfl,by simp,fits_rframe (by show fr.length + 1 ≤ _; omega),rfl,?_⟩;(conv=>whnf);refine tQ ?_;conv=>whnf
     have kpu2 : SpecD S 66 [.ptr 0 0,.nils] [rkC l lo.length se.length o (.own .vt 3 0 0 .whole) (.own .rframe 4 0 (fr.length + 1) .whole),.row .vt lo,.row .bool se,.row .vt st,.row .rframe (fr.take fr.length ++ [⟨w,some [],some b,0,some se,false⟩])] (.int .i64 0) [rkC l lo.length se.length o (.own .vt 3 0 0 .whole) (.own .rframe 4 0 (fr.length + 1) .whole),.row .vt lo,.row .bool se,.row .vt st,.row .rframe (fr.take fr.length ++ [⟨w,some [],some b,0,some se,false⟩])] := by
      have k := kpu;unfold rk at k;rw [hfl] at k;rw [List.take_length];exact k
     refine cQ [0,1,2,3,7] kpu2 ?_;(conv=>whnf);refine eQ [0,1,2,3,4,7] ⟨rfl,?_⟩;unfold rkE;rw [hfl];conv => rhs; rw [← List.take_length (l := fr)]
     rw [List.take_length];rfl
   · (conv=>whnf);have hlt := of_decide_eq_true hd;have hw : IntKind.i64.wrap ((j : Int) + 1) = ((j + 1 : Nat) : Int) := wrap_i64 (by omega) (by omega);have hx := getD_at (show j < fr.length by omega) (S.zero .rframe);have hnx := hn _ (List.mem_of_getElem? hx);have ht : fr.take (j + 1) = fr.take j ++ [fr.getD j (S.zero .rframe)] := by rw [List.take_add_one,hx]; rfl
     refine ⟨rfl,by omega,by omega,?_⟩;(conv=>whnf);refine ⟨rfl,by omega,by decide,?_⟩;rw [show fr.getD (0 + Int.toNat (j : Int)) (S.zero .rframe) = fr.getD j (S.zero .rframe) by rw [Nat.zero_add,Int.toNat_natCast]];generalize fr.getD j (S.zero .rframe) = z at hx hnx ht;obtain ⟨o0,i0,u0,h0,s0,d0⟩ := z;obtain ⟨⟨u,hu⟩,⟨s,hs⟩,_⟩ := hnx;simp only at hu hs;subst hu hs;cases i0
     all_goals
      (conv=>whnf);refine ⟨rfl,by simp,?_⟩;(conv=>whnf);refine ⟨rfl,by rw [htl j hj]; omega,fits_rframe (by show j + 1 ≤ _; omega),rfl,?_⟩;(conv=>whnf);refine ⟨[0,1,2,3,4,7],[],relo_of [0,1,2,3,4,7] (by rfl) (by rfl),?_⟩;refine ⟨⟨j + 1,by omega,?_,?_⟩,?_⟩
      · show [AV.ptr 0 0,.int .i64 w,.nils,.imm .vt b,.own .rframe 5 0 (j + 1) .whole,.int .i64 (IntKind.i64.wrap ((j : Int) + 1))] = reV w b ((j + 1 : Nat) : Int) (j + 1);rw [hw];rfl
      · rw [ht];conv => rhs; rw [← e4 j]
        rfl
      · show fr.length - (IntKind.i64.wrap ((j : Int) + 1)).toNat < fr.length - (j : Int).toNat;rw [hw]; omega
theorem c_rtop : ∀ (_hf0 : 0 < fr.length) (_hf : fr.length ≤ 4000000),SpecD S 114 [.ptr 0 0] (rk l lo se o st m C fr D) (.eptr .rframe 4 (fr.length - 1) 0) (rk l lo se o st m C fr D) := by
 intro hf0 hf;have hw : IntKind.i64.wrap ((fr.length : Int) - 1) = ((fr.length - 1 : Nat) : Int) := by rw [wrap_i64 (by omega) (by omega)]; omega
 cases C;all_goals cases D
 all_goals
  refine specE ok sh114 rfl ?_;(conv=>whnf);rw [hw];refine ⟨rfl,by omega,by omega,?_⟩;rw [show 0 + Int.toNat ((fr.length - 1 : Nat) : Int) = fr.length - 1 by rw [Nat.zero_add,Int.toNat_natCast]];(conv=>whnf);exact eQ [0,1,2,3,4] (by exact ⟨rfl,rfl⟩)
def rkU (l : List El_grp) (lo : List El_vt) (se : List Bool) (o : List El_vt) (X Y : AO KT ElT) (fr : List El_rframe) : Heap KT ElT :=
 [rkC l lo.length se.length o (.own .vt 5 0 0 .whole) (.own .rframe 6 0 fr.length .whole),.row .vt lo,.row .bool se,X,Y,.row .vt [],.row .rframe fr]
def ruV (j : Int) (n : Nat) : List V := [.ptr 0 0,.own .rframe 6 0 n .whole,.int .i64 j]
theorem c_rUnr (G : Gr lo se o st m C fr D) : Spec S 68 [.ptr 0 0] (rk l lo se o st m C fr D) fun r H => r = .int .i64 0 ∧ ∃ fr',fr'.length = fr.length ∧ (∀ f ∈ fr',NrF f) ∧ H = rkU l lo se o (.row .vt st) (.row .rframe fr) fr' := by
 have e0 : ((fr.length : Int) == 0) = false := beq_eq_false_iff_ne.2 (by have := G.hf0; omega);obtain ⟨hC,hD,hlo,hse,ho,hm,hm2,hf0,hf,hn⟩ := G;have kt := fun C D => c_rtop (l := l) (lo := lo) (se := se) (o := o) (st := st) (m := m) (C := C) (D := D) (fr := fr) hf0 (by omega);have kl := fun C => c_rlistO st 0 C (Nat.zero_le _) (by omega);have hx := getD_at (show fr.length - 1 < fr.length by omega) (S.zero .rframe);have hnx := hn _ (List.mem_of_getElem? hx);have htl : ∀ j,j ≤ fr.length → (fr.take j).length = j := fun j hj => by simp; omega
 have e4 : ∀ j,(fr.take j).take j = fr.take j := fun j => by rw [List.take_take,Nat.min_self]
 have hw1 : IntKind.i64.wrap ((fr.length : Int) - 1) = ((fr.length - 1 : Nat) : Int) := by rw [wrap_i64 (by omega) (by omega)]; omega
 generalize hz : fr.getD (fr.length - 1) (S.zero .rframe) = z at hx hnx;obtain ⟨o0,i0,u0,h0,s0,d0⟩ := z;obtain ⟨⟨u,hu⟩,⟨s,hs⟩,h00⟩ := hnx;simp only at hu hs h00;subst hu hs h00;obtain ⟨zz,hzz⟩ : ∃ zz : El_rframe,zz = ⟨o0,i0,some u,0,some s,true⟩ := ⟨_,rfl⟩;have hzp : NrF zz := by rw [hzz]; exact ⟨⟨u,rfl⟩,⟨s,rfl⟩,rfl⟩
 cases i0
 all_goals
  cases C with
  | unk => exact absurd rfl hC
  | full =>
   cases D with
   | unk => exact absurd rfl hD
   | full =>
    refine specE ok sh68 rfl ?_;(conv=>whnf);simp only [e0];(conv=>whnf);refine cQ [0,1,2,3,4] ((kt _ _)) ?_;(conv=>whnf);refine tQ ?_;(conv=>whnf);refine ⟨rfl,by omega,(by decide : 3 + 1 ≤ 6),?_⟩;rw [hz];(conv=>whnf);refine ⟨rfl,?_⟩;(conv=>whnf);refine ⟨by decide,by show (0 : Int) ≤ 0; omega,by show (0 : Int) ≤ (m : Int); omega,?_⟩;(conv=>whnf);refine cQ [3] ((kl _)) ?_;(conv=>whnf);refine tQ ?_;conv=>whnf
    refine loop_of [.slot 3 .rframe] [0,1,2,3,4,5,6] (fun vs H => ∃ j : Nat,j ≤ fr.length ∧ vs = ruV j j ∧ H = [rkC l lo.length se.length o (.own .vt 5 0 0 .whole) (.own .rframe 4 0 fr.length .full),.row .vt lo,.row .bool se,.row .vt st,.row .rframe fr,.row .vt (st.take 0),.row .rframe (fr.take j)])
     (fun vs _ => match vs with | [_,_,.int _ j] => fr.length - j.toNat | _ => 0) (by rfl) (by rfl) (by rfl) (by rfl) ⟨0,Nat.zero_le _,rfl,rfl⟩ ?_
    rintro vs H1 ⟨j,hj,rfl,rfl⟩;(conv=>whnf);cases hd : decide ((j : Int) < fr.length)
    · (conv=>whnf);have := of_decide_eq_false hd;obtain rfl : j = fr.length := by omega
      rw [List.take_length];rw [hw1];refine ⟨rfl,by omega,by omega,?_⟩;rw [show 0 + Int.toNat ((fr.length - 1 : Nat) : Int) = fr.length - 1 by rw [Nat.zero_add,Int.toNat_natCast]];(conv=>whnf);refine ⟨rfl,by omega,(by decide : 5 + 1 ≤ 6),?_⟩;rw [hz];(conv=>whnf);refine eQ [0,1,2,3,4,5,6] ⟨rfl,fr.set (fr.length - 1) zz,by simp,?_,?_⟩
      rotate_left
      · unfold rkU;rw [List.length_set,hzz];rfl
      · intro f hf'
        rcases List.mem_or_eq_of_mem_set hf' with h | h
        · exact hn f h
        · rw [h]; exact hzp
    · (conv=>whnf);have hlt := of_decide_eq_true hd;have hw : IntKind.i64.wrap ((j : Int) + 1) = ((j + 1 : Nat) : Int) := wrap_i64 (by omega) (by omega);have hx := getD_at (show j < fr.length by omega) (S.zero .rframe);have hnx := hn _ (List.mem_of_getElem? hx);have ht : fr.take (j + 1) = fr.take j ++ [fr.getD j (S.zero .rframe)] := by rw [List.take_add_one,hx]; rfl
      refine ⟨rfl,by omega,by omega,?_⟩;(conv=>whnf);refine ⟨rfl,by omega,by decide,?_⟩;rw [show fr.getD (0 + Int.toNat (j : Int)) (S.zero .rframe) = fr.getD j (S.zero .rframe) by rw [Nat.zero_add,Int.toNat_natCast]];generalize fr.getD j (S.zero .rframe) = z at hx hnx ht;obtain ⟨o0,i0,u0,h0,s0,d0⟩ := z;obtain ⟨⟨u,hu⟩,⟨s,hs⟩,_⟩ := hnx;simp only at hu hs;subst hu hs;cases i0
      all_goals
       (conv=>whnf);refine ⟨rfl,by simp,?_⟩;(conv=>whnf);refine ⟨rfl,by rw [htl j hj]; omega,fits_rframe (by show j + 1 ≤ _; omega),rfl,?_⟩;(conv=>whnf);refine ⟨[0,1,2,3,4,5,8],[],relo_of [0,1,2,3,4,5,8] (by rfl) (by rfl),?_⟩;refine ⟨⟨j + 1,by omega,?_,?_⟩,?_⟩
       · show [AV.ptr 0 0,.own .rframe 6 0 (j + 1) .whole,.int .i64 (IntKind.i64.wrap ((j : Int) + 1))] = ruV ((j + 1 : Nat) : Int) (j + 1);rw [hw];rfl
       · rw [ht];conv => rhs; rw [← e4 j]
         rfl
       · show fr.length - (IntKind.i64.wrap ((j : Int) + 1)).toNat < fr.length - (j : Int).toNat;rw [hw]; omega
   | whole =>
    refine specE ok sh68 rfl ?_;(conv=>whnf);simp only [e0];(conv=>whnf);refine cQ [0,1,2,3,4] ((kt _ _)) ?_;(conv=>whnf);refine tQ ?_;(conv=>whnf);refine ⟨rfl,by omega,(by decide : 3 + 1 ≤ 6),?_⟩;rw [hz];(conv=>whnf);refine ⟨rfl,?_⟩;(conv=>whnf);refine ⟨by decide,by show (0 : Int) ≤ 0; omega,by show (0 : Int) ≤ (m : Int); omega,?_⟩;(conv=>whnf);refine cQ [3] ((kl _)) ?_;(conv=>whnf);refine tQ ?_;conv=>whnf
    refine loop_of [.slot 3 .rframe] [0,1,2,3,4,5,6] (fun vs H => ∃ j : Nat,j ≤ fr.length ∧ vs = ruV j j ∧ H = [rkC l lo.length se.length o (.own .vt 5 0 0 .whole) (.own .rframe 4 0 fr.length .whole),.row .vt lo,.row .bool se,.row .vt st,.row .rframe fr,.row .vt (st.take 0),.row .rframe (fr.take j)])
     (fun vs _ => match vs with | [_,_,.int _ j] => fr.length - j.toNat | _ => 0) (by rfl) (by rfl) (by rfl) (by rfl) ⟨0,Nat.zero_le _,rfl,rfl⟩ ?_
    rintro vs H1 ⟨j,hj,rfl,rfl⟩;(conv=>whnf);cases hd : decide ((j : Int) < fr.length)
    · (conv=>whnf);have := of_decide_eq_false hd;obtain rfl : j = fr.length := by omega
      rw [List.take_length];rw [hw1];refine ⟨rfl,by omega,by omega,?_⟩;rw [show 0 + Int.toNat ((fr.length - 1 : Nat) : Int) = fr.length - 1 by rw [Nat.zero_add,Int.toNat_natCast]];(conv=>whnf);refine ⟨rfl,by omega,(by decide : 5 + 1 ≤ 6),?_⟩;rw [hz];(conv=>whnf);refine eQ [0,1,2,3,4,5,6] ⟨rfl,fr.set (fr.length - 1) zz,by simp,?_,?_⟩
      rotate_left
      · unfold rkU;rw [List.length_set,hzz];rfl
      · intro f hf'
        rcases List.mem_or_eq_of_mem_set hf' with h | h
        · exact hn f h
        · rw [h]; exact hzp
    · (conv=>whnf);have hlt := of_decide_eq_true hd;have hw : IntKind.i64.wrap ((j : Int) + 1) = ((j + 1 : Nat) : Int) := wrap_i64 (by omega) (by omega);have hx := getD_at (show j < fr.length by omega) (S.zero .rframe);have hnx := hn _ (List.mem_of_getElem? hx);have ht : fr.take (j + 1) = fr.take j ++ [fr.getD j (S.zero .rframe)] := by rw [List.take_add_one,hx]; rfl
      refine ⟨rfl,by omega,by omega,?_⟩;(conv=>whnf);refine ⟨rfl,by omega,by decide,?_⟩;rw [show fr.getD (0 + Int.toNat (j : Int)) (S.zero .rframe) = fr.getD j (S.zero .rframe) by rw [Nat.zero_add,Int.toNat_natCast]];generalize fr.getD j (S.zero .rframe) = z at hx hnx ht;obtain ⟨o0,i0,u0,h0,s0,d0⟩ := z;obtain ⟨⟨u,hu⟩,⟨s,hs⟩,_⟩ := hnx;simp only at hu hs;subst hu hs;cases i0
      all_goals
       (conv=>whnf);refine ⟨rfl,by simp,?_⟩;(conv=>whnf);refine ⟨rfl,by rw [htl j hj]; omega,fits_rframe (by show j + 1 ≤ _; omega),rfl,?_⟩;(conv=>whnf);refine ⟨[0,1,2,3,4,5,8],[],relo_of [0,1,2,3,4,5,8] (by rfl) (by rfl),?_⟩;refine ⟨⟨j + 1,by omega,?_,?_⟩,?_⟩
       · show [AV.ptr 0 0,.own .rframe 6 0 (j + 1) .whole,.int .i64 (IntKind.i64.wrap ((j : Int) + 1))] = ruV ((j + 1 : Nat) : Int) (j + 1);rw [hw];rfl
       · rw [ht];conv => rhs; rw [← e4 j]
         rfl
       · show fr.length - (IntKind.i64.wrap ((j : Int) + 1)).toNat < fr.length - (j : Int).toNat;rw [hw]; omega
  | whole =>
   cases D with
   | unk => exact absurd rfl hD
   | full =>
    refine specE ok sh68 rfl ?_;(conv=>whnf);simp only [e0];(conv=>whnf);refine cQ [0,1,2,3,4] ((kt _ _)) ?_;(conv=>whnf);refine tQ ?_;(conv=>whnf);refine ⟨rfl,by omega,(by decide : 3 + 1 ≤ 6),?_⟩;rw [hz];(conv=>whnf);refine ⟨rfl,?_⟩;(conv=>whnf);refine ⟨by decide,by show (0 : Int) ≤ 0; omega,by show (0 : Int) ≤ (m : Int); omega,?_⟩;(conv=>whnf);refine cQ [3] ((kl _)) ?_;(conv=>whnf);refine tQ ?_;conv=>whnf
    refine loop_of [.slot 3 .rframe] [0,1,2,3,4,5,6] (fun vs H => ∃ j : Nat,j ≤ fr.length ∧ vs = ruV j j ∧ H = [rkC l lo.length se.length o (.own .vt 5 0 0 .whole) (.own .rframe 4 0 fr.length .full),.row .vt lo,.row .bool se,.row .vt st,.row .rframe fr,.row .vt (st.take 0),.row .rframe (fr.take j)])
     (fun vs _ => match vs with | [_,_,.int _ j] => fr.length - j.toNat | _ => 0) (by rfl) (by rfl) (by rfl) (by rfl) ⟨0,Nat.zero_le _,rfl,rfl⟩ ?_
    rintro vs H1 ⟨j,hj,rfl,rfl⟩;(conv=>whnf);cases hd : decide ((j : Int) < fr.length)
    · (conv=>whnf);have := of_decide_eq_false hd;obtain rfl : j = fr.length := by omega
      rw [List.take_length];rw [hw1];refine ⟨rfl,by omega,by omega,?_⟩;rw [show 0 + Int.toNat ((fr.length - 1 : Nat) : Int) = fr.length - 1 by rw [Nat.zero_add,Int.toNat_natCast]];(conv=>whnf);refine ⟨rfl,by omega,(by decide : 5 + 1 ≤ 6),?_⟩;rw [hz];(conv=>whnf);refine eQ [0,1,2,3,4,5,6] ⟨rfl,fr.set (fr.length - 1) zz,by simp,?_,?_⟩
      rotate_left
      · unfold rkU;rw [List.length_set,hzz];rfl
      · intro f hf'
        rcases List.mem_or_eq_of_mem_set hf' with h | h
        · exact hn f h
        · rw [h]; exact hzp
    · (conv=>whnf);have hlt := of_decide_eq_true hd;have hw : IntKind.i64.wrap ((j : Int) + 1) = ((j + 1 : Nat) : Int) := wrap_i64 (by omega) (by omega);have hx := getD_at (show j < fr.length by omega) (S.zero .rframe);have hnx := hn _ (List.mem_of_getElem? hx);have ht : fr.take (j + 1) = fr.take j ++ [fr.getD j (S.zero .rframe)] := by rw [List.take_add_one,hx]; rfl
      refine ⟨rfl,by omega,by omega,?_⟩;(conv=>whnf);refine ⟨rfl,by omega,by decide,?_⟩;rw [show fr.getD (0 + Int.toNat (j : Int)) (S.zero .rframe) = fr.getD j (S.zero .rframe) by rw [Nat.zero_add,Int.toNat_natCast]];generalize fr.getD j (S.zero .rframe) = z at hx hnx ht;obtain ⟨o0,i0,u0,h0,s0,d0⟩ := z;obtain ⟨⟨u,hu⟩,⟨s,hs⟩,_⟩ := hnx;simp only at hu hs;subst hu hs;cases i0
      all_goals
       (conv=>whnf);refine ⟨rfl,by simp,?_⟩;(conv=>whnf);refine ⟨rfl,by rw [htl j hj]; omega,fits_rframe (by show j + 1 ≤ _; omega),rfl,?_⟩;(conv=>whnf);refine ⟨[0,1,2,3,4,5,8],[],relo_of [0,1,2,3,4,5,8] (by rfl) (by rfl),?_⟩;refine ⟨⟨j + 1,by omega,?_,?_⟩,?_⟩
       · show [AV.ptr 0 0,.own .rframe 6 0 (j + 1) .whole,.int .i64 (IntKind.i64.wrap ((j : Int) + 1))] = ruV ((j + 1 : Nat) : Int) (j + 1);rw [hw];rfl
       · rw [ht];conv => rhs; rw [← e4 j]
         rfl
       · show fr.length - (IntKind.i64.wrap ((j : Int) + 1)).toNat < fr.length - (j : Int).toNat;rw [hw]; omega
   | whole =>
    refine specE ok sh68 rfl ?_;(conv=>whnf);simp only [e0];(conv=>whnf);refine cQ [0,1,2,3,4] ((kt _ _)) ?_;(conv=>whnf);refine tQ ?_;(conv=>whnf);refine ⟨rfl,by omega,(by decide : 3 + 1 ≤ 6),?_⟩;rw [hz];(conv=>whnf);refine ⟨rfl,?_⟩;(conv=>whnf);refine ⟨by decide,by show (0 : Int) ≤ 0; omega,by show (0 : Int) ≤ (m : Int); omega,?_⟩;(conv=>whnf);refine cQ [3] ((kl _)) ?_;(conv=>whnf);refine tQ ?_;conv=>whnf
    refine loop_of [.slot 3 .rframe] [0,1,2,3,4,5,6] (fun vs H => ∃ j : Nat,j ≤ fr.length ∧ vs = ruV j j ∧ H = [rkC l lo.length se.length o (.own .vt 5 0 0 .whole) (.own .rframe 4 0 fr.length .whole),.row .vt lo,.row .bool se,.row .vt st,.row .rframe fr,.row .vt (st.take 0),.row .rframe (fr.take j)])
     (fun vs _ => match vs with | [_,_,.int _ j] => fr.length - j.toNat | _ => 0) (by rfl) (by rfl) (by rfl) (by rfl) ⟨0,Nat.zero_le _,rfl,rfl⟩ ?_
    rintro vs H1 ⟨j,hj,rfl,rfl⟩;(conv=>whnf);cases hd : decide ((j : Int) < fr.length)
    · (conv=>whnf);have := of_decide_eq_false hd;obtain rfl : j = fr.length := by omega
      rw [List.take_length];rw [hw1];refine ⟨rfl,by omega,by omega,?_⟩;rw [show 0 + Int.toNat ((fr.length - 1 : Nat) : Int) = fr.length - 1 by rw [Nat.zero_add,Int.toNat_natCast]];(conv=>whnf);refine ⟨rfl,by omega,(by decide : 5 + 1 ≤ 6),?_⟩;rw [hz];(conv=>whnf);refine eQ [0,1,2,3,4,5,6] ⟨rfl,fr.set (fr.length - 1) zz,by simp,?_,?_⟩
      rotate_left
      · unfold rkU;rw [List.length_set,hzz];rfl
      · intro f hf'
        rcases List.mem_or_eq_of_mem_set hf' with h | h
        · exact hn f h
        · rw [h]; exact hzp
    · (conv=>whnf);have hlt := of_decide_eq_true hd;have hw : IntKind.i64.wrap ((j : Int) + 1) = ((j + 1 : Nat) : Int) := wrap_i64 (by omega) (by omega);have hx := getD_at (show j < fr.length by omega) (S.zero .rframe);have hnx := hn _ (List.mem_of_getElem? hx);have ht : fr.take (j + 1) = fr.take j ++ [fr.getD j (S.zero .rframe)] := by rw [List.take_add_one,hx]; rfl
      refine ⟨rfl,by omega,by omega,?_⟩;(conv=>whnf);refine ⟨rfl,by omega,by decide,?_⟩;rw [show fr.getD (0 + Int.toNat (j : Int)) (S.zero .rframe) = fr.getD j (S.zero .rframe) by rw [Nat.zero_add,Int.toNat_natCast]];generalize fr.getD j (S.zero .rframe) = z at hx hnx ht;obtain ⟨o0,i0,u0,h0,s0,d0⟩ := z;obtain ⟨⟨u,hu⟩,⟨s,hs⟩,_⟩ := hnx;simp only at hu hs;subst hu hs;cases i0
      all_goals
       (conv=>whnf);refine ⟨rfl,by simp,?_⟩;(conv=>whnf);refine ⟨rfl,by rw [htl j hj]; omega,fits_rframe (by show j + 1 ≤ _; omega),rfl,?_⟩;(conv=>whnf);refine ⟨[0,1,2,3,4,5,8],[],relo_of [0,1,2,3,4,5,8] (by rfl) (by rfl),?_⟩;refine ⟨⟨j + 1,by omega,?_,?_⟩,?_⟩
       · show [AV.ptr 0 0,.own .rframe 6 0 (j + 1) .whole,.int .i64 (IntKind.i64.wrap ((j : Int) + 1))] = ruV ((j + 1 : Nat) : Int) (j + 1);rw [hw];rfl
       · rw [ht];conv => rhs; rw [← e4 j]
         rfl
       · show fr.length - (IntKind.i64.wrap ((j : Int) + 1)).toNat < fr.length - (j : Int).toNat;rw [hw]; omega
end Ck
end Sh
end Go.Proofs.YtomdfaelgcefdaaGreatDoor
