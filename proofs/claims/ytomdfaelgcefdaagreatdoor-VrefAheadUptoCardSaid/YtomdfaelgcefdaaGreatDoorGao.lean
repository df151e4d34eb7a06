/- Fade Tab Opn Opd Sub HeapI. -/
import Derived.Test.YtomdfaelgcefdaaGreatDoorProg
import Derived.RangeFuncNested
import Derived.RangeFuncBound
import Derived.RangeFuncCalls
import Derived.RangeFuncLeaves
import Derived.Shelf.Abstract
import Derived.Shelf.RegionOpen
import Derived.WalkKit
import Derived.OwnWalkIn
import Derived.TacticsInMore
import Derived.LoopNIn
import Derived.LoopIn
import Derived.KernelRfl
import Derived.Test.YtomdfaelgcefdaaGreatDoorGan
set_option maxRecDepth 100000
set_option maxHeartbeats 64000000
namespace Go.Proofs.YtomdfaelgcefdaaGreatDoor
open Go
namespace Sh
section
variable {K : Type} {El : K → Type} {S : Seat K El}
def Fades (H H2 : Heap K El) : Prop := H2.length = H.length ∧ ∀ (i : Nat) (o : AO K El),H2[i]? = some o → o = .gone ∨ H[i]? = some o
theorem Fades.emb {E : Env} {w : World} {H H2 : Heap K El} (hf : Fades H H2) (h : Emb S E H w) : Emb S E H2 w :=
 ⟨by rw [hf.1]; exact h.len,fun i o l ho hl => by
  rcases hf.2 i o ho with rfl | h1
  · trivial
  · exact h.obj i o l h1 hl,h.inj,h.lt,h.F,h.gl⟩
theorem Spec.fade {f : Nat} {vs : List (AV K El)} {H : Heap K El} {R R' : AV K El → Heap K El → Prop} (h : Spec S f vs H R) (hr : ∀ r H',R r H' → ∃ H2,Fades H' H2 ∧ R' r H2) : Spec S f vs H R' :=
 fun E w args he hs ha => (h E w args he hs ha).mono fun _ _ ⟨v,r,E',_H',h1,h2,h3,h4,h5⟩ => let ⟨H2,hf,hq⟩ := hr _ _ h2; ⟨v,r,E',H2,h1,hq,h3,hf.emb h4,h5⟩
theorem fades3 (o0 o1 o2 o3 : AO K El) : Fades [o0,o1,o2,o3] [.gone,.gone,.gone,o3] := ⟨rfl,fun i o h => by
 match i,h with
 | 0,h => cases h; exact .inl rfl
 | 1,h => cases h; exact .inl rfl
 | 2,h => cases h; exact .inl rfl
 | 3,h => cases h; exact .inr rfl⟩
theorem fades2 (o0 o1 o3 : AO K El) : Fades [o0,o1,o3] [.gone,.gone,o3] := ⟨rfl,fun i o h => by
 match i,h with
 | 0,h => cases h; exact .inl rfl
 | 1,h => cases h; exact .inl rfl
 | 2,h => cases h; exact .inr rfl⟩
theorem fades0 (o0 o1 : AO K El) : Fades [o0,o1] [.gone,.gone] := ⟨rfl,fun i o h => by
 match i,h with
 | 0,h => cases h; exact .inl rfl
 | 1,h => cases h; exact .inl rfl⟩
end
end Sh
end Go.Proofs.YtomdfaelgcefdaaGreatDoor
namespace Go.Proofs.YtomdfaelgcefdaaGreatDoor
open Go
namespace Sh
def typesN (l : List El_grp) : Nat := (l.map fun g => (g.types.getD []).length).sum
def flat (l : List El_grp) : List El_sub := l.flatMap fun g => g.types.getD []
theorem flat_len (l : List El_grp) : (flat l).length = typesN l := by simp [flat,typesN,List.length_flatMap]
theorem typesN_le {l : List El_grp} (hg : ∀ g ∈ l,good_grp 1048576 g) : typesN l ≤ l.length * 1048576 := by
 induction l with
 | nil => simp [typesN]
 | cons g l ih =>
  have h1 := ih fun x hx => hg x (List.mem_cons_of_mem _ hx);obtain ⟨t,ht,htl,_⟩ := hg g (by simp);have h2 : typesN (g :: l) = t.length + typesN l := by simp [typesN,ht]
  rw [h2,List.length_cons,Nat.succ_mul];omega
theorem addG_len {most : Int} {s s' : CS} {ids ids' : List Int} {g : El_grp} (e : addG most s ids g = some (s',ids')) : ids'.length = ids.length + (g.types.getD []).length := by
 unfold addG at e;have hl : (ownG ids g).length = (g.types.getD []).length := by simp [ownG]
 split at e
 · simp only [Option.some.injEq,Prod.mk.injEq] at e;rw [← e.2,List.length_append,numsF_len,hl]
 · split at e
   · cases e
   · simp only [Option.some.injEq,Prod.mk.injEq] at e;rw [← e.2,List.length_append,numsF_len,hl]
theorem addL_res {most : Int} : ∀ (l : List El_grp) (s : CS) (ids : List Int) (j : Nat) {s' : CS} {ids' : List Int} {b : Int},addL most s ids j l = (s',ids',b) → (b = -1 ∧ ids'.length = ids.length + typesN l) ∨ 0 ≤ b
 | [],s,ids,j,s',ids',b,h => by
  simp only [addL,Prod.mk.injEq] at h;obtain ⟨_,rfl,rfl⟩ := h;exact .inl ⟨rfl,by simp [typesN]⟩
 | g :: r,s,ids,j,s',ids',b,h => by
  unfold addL at h;split at h
  · rename_i s1 ids1 h1;have := addG_len h1
    rcases addL_res r s1 ids1 (j + 1) h with ⟨h2,h3⟩ | h2
    · refine .inl ⟨h2,?_⟩;rw [h3,this];simp [typesN];omega
    · exact .inr h2
  · simp only [Prod.mk.injEq] at h;exact .inr (by omega)
theorem addL_okCS {most : Int} : ∀ (l : List El_grp) (s : CS) (ids : List Int) (j m : Nat) {x : CS × List Int × Int},addL most s ids j l = x → (∀ g ∈ l,good_grp 1048576 g) → okCS s m → m + l.length * 1048576 ≤ 2199023255552 → okIds ids 4398046511104 → okCS x.1 (m + l.length * 1048576) ∧ okIds x.2.1 4398046511104
 | [],s,ids,j,m,x,h,hg,hs,hm,hi => by
  simp only [addL] at h;subst h;simp only [List.length_nil,Nat.zero_mul,Nat.add_zero];exact ⟨hs,hi⟩
 | g :: r,s,ids,j,m,x,h,hg,hs,hm,hi => by
  unfold addL at h;simp only [List.length_cons,Nat.succ_mul] at hm ⊢;split at h
  · rename_i s1 ids1 h1;have h2 := addG_ok hs (by omega) hi (hg g (by simp)) h1;have := addL_okCS r s1 ids1 (j + 1) (m + 1048576) h (fun y hy => hg y (List.mem_cons_of_mem _ hy)) h2.1 (by omega) h2.2.1;rw [show m + (r.length * 1048576 + 1048576) = m + 1048576 + r.length * 1048576 by omega];exact this
  · subst h;exact ⟨⟨hs.es,fun f hf => by have := hs.fams f hf; omega,by have := hs.many; show s.many ≤ _; omega,by have := hs.len; show s.fams.length ≤ _; omega⟩,fun x hx => by simp at hx⟩
theorem addL_most {most : Int} (hmost : 4611686018427387904 ≤ most) : ∀ (l : List El_grp) (s : CS) (ids : List Int) (j m : Nat) {x : CS × List Int × Int},addL most s ids j l = x → (∀ g ∈ l,good_grp 1048576 g) → okCS s m → m + l.length * 1048576 ≤ 2199023255552 → okIds ids 4398046511104 → x.2.2 = -1
 | [],s,ids,j,m,x,h,hg,hs,hm,hi => by
  simp only [addL] at h;subst h;rfl
 | g :: r,s,ids,j,m,x,h,hg,hs,hm,hi => by
  unfold addL at h;simp only [List.length_cons,Nat.succ_mul] at hm;split at h
  · rename_i s1 ids1 h1;have h2 := addG_ok hs (by omega) hi (hg g (by simp)) h1;exact addL_most hmost r s1 ids1 (j + 1) (m + 1048576) h (fun y hy => hg y (List.mem_cons_of_mem _ hy)) h2.1 (by omega) h2.2.1
  · rename_i h1;exfalso;have ho := (ownG_ok (B := 4398046511104) hi (by decide) (hg g (by simp))).1;have := hs.many;unfold addG at h1;split at h1
    · cases h1
    · split at h1
      · omega
      · cases h1
def cs0 : CS := ⟨[],[],0⟩
theorem cs0_ok (m : Nat) : okCS cs0 m := ⟨fun p h => by simp [cs0] at h,fun p h => by simp [cs0] at h,Nat.zero_le _,Nat.zero_le _⟩
theorem ids0_ok (m : Nat) : okIds [] m := fun x h => by simp at h
theorem c_New : SpecD S 208 [] [] (.ptr 0 0) tab0 := by
 refine specE ok sh208 rfl ?_;(conv=>whnf);exact eQ [1,0] (by exact ⟨rfl,rfl⟩)
theorem c_none : SpecD S 226 [.ptr 0 0] tab0 (.bool false) tab0 := by
 refine specE ok sh226 rfl ?_;(conv=>whnf);exact eQ [0,1] (by exact ⟨rfl,rfl⟩)
noncomputable def idsA (l : List El_grp) : Option (List Int) :=
 if (closedF l).2 = 0 ∧ (addL 10000 cs0 [] 0 l).2.2 = -1 then some (addL 10000 cs0 [] 0 l).2.1 else none
theorem c_Add (l : List El_grp) (hl : l.length ≤ 1048576) (hg : ∀ g ∈ l,good_grp 1048576 g) :
    Spec S 209 [.ptr 0 0,.imm .grp l] tab0 (fun r H' => match idsA l with
     | some ids => r = .tup [.own .int 2 0 ids.length .whole,.int .i64 0,.int .i64 0] ∧ H' = [.gone,.gone,.row .int ids]
     | none => ∃ a e : Int,e ≠ 0 ∧ r = .tup [.nils,.int .i64 a,.int .i64 e] ∧ H' = [.gone,.gone]) := by
 refine Spec.fade (R := fun r H' => match idsA l with
     | some ids => r = .tup [.own .int 2 0 ids.length .whole,.int .i64 0,.int .i64 0] ∧ ∃ o0 o1,H' = [o0,o1,.row .int ids]
     | none => ∃ a e : Int,e ≠ 0 ∧ r = .tup [.nils,.int .i64 a,.int .i64 e] ∧ ∃ o0 o1,H' = [o0,o1]) ?_ ?_
 rotate_left
 · intro r H' h;split at h
   · rename_i ids he;obtain ⟨h1,o0,o1,rfl⟩ := h;refine ⟨_,fades2 _ _ _,?_⟩;exact ⟨h1,rfl⟩
   · rename_i he;obtain ⟨a,e,h1,h2,o0,o1,rfl⟩ := h;refine ⟨_,fades0 _ _,?_⟩;exact ⟨a,e,h1,h2,rfl⟩
 have hcl := c_Closed l hl hg;have had := c_addN0 10000 l hl hg
 change SpecD _ _ _ _ (adR (addL 10000 cs0 [] 0 l)) (adHR [] (addL 10000 cs0 [] 0 l)) at had
 have hres := @addL_res 10000 l cs0 [] 0;unfold idsA;generalize addL 10000 cs0 [] 0 l = x at had hres ⊢;generalize closedF l = y at hcl ⊢;obtain ⟨s,ids,b⟩ := x;obtain ⟨a,e⟩ := y;unfold pairV at hcl;refine specE ok sh209 rfl ?_;(conv=>whnf);refine cQ [0,1] c_none ?_;(conv=>whnf);refine cQ [] hcl ?_;(conv=>whnf);cases he : (e == 0)
 · have he' : ¬ e = 0 := by simpa using he
   simp only [bne,he];(conv=>whnf);refine eQ [0,1] ?_;rw [if_neg (fun h => he' h.1)];exact ⟨a,e,he',rfl,_,_,rfl⟩
 · have he' : e = 0 := by simpa using he
   subst he';simp only [bne,he];(conv=>whnf);refine cQ [0,1] c_copied ?_;conv=>whnf
   rcases hres rfl with ⟨hb,_⟩ | hb
   · subst hb
     change SpecD _ _ _ _ (.tup [.own .int 3 0 ids.length .whole,.int .i64 (-1)]) (adH [] s ids) at had
     refine cQ [3,2] had ?_;(conv=>whnf);refine eQ [0,1,5] ?_;rw [if_pos (by simp)];exact ⟨rfl,_,_,rfl⟩
   · have hb' : ¬ b = -1 := by omega
     have e1 : adR (s,ids,b) = .tup [.nils,.int .i64 b] := if_neg hb';have e2 : adHR [] (s,ids,b) = adE [] s := if_neg hb';rw [e1,e2] at had;refine cQ [3,2] had ?_;(conv=>whnf);cases hd : decide (0 ≤ b)
     · have := of_decide_eq_false hd;omega
     · (conv=>whnf);refine eQ [0,1] ?_;rw [if_neg (fun h => hb' h.2)];exact ⟨b,2,by decide,rfl,_,_,rfl⟩
def ctV (l : List El_grp) (c : Nat) (j : Int) : List V := [.int .i64 c,.imm .grp l,.int .i64 l.length,.int .i64 j]
theorem c_Count (l : List El_grp) (hl : l.length ≤ 1048576) (hg : ∀ g ∈ l,good_grp 1048576 g) :
    SpecD S 149 [.imm .grp l] [] (.int .i64 (typesN l)) [] := by
 refine specE ok sh149 rfl ?_;conv=>whnf
 refine loop_of [] [] (fun vs H => ∃ (j c : Nat),j ≤ l.length ∧ c ≤ j * 1048576 ∧ c = typesN (l.take j) ∧ vs = ctV l c j ∧ H = [])
  (fun vs _ => match vs with | [_,_,_,.int _ j] => l.length - j.toNat | _ => 0) (by rfl) (by rfl) (by rfl) (by rfl) ⟨0,0,Nat.zero_le _,Nat.zero_le _,rfl,rfl,rfl⟩ ?_
 rintro vs H1 ⟨j,c,hj,hc,hF,rfl,rfl⟩;(conv=>whnf);cases hd : decide ((j : Int) < l.length)
 · (conv=>whnf);have := of_decide_eq_false hd;obtain rfl : j = l.length := by omega
   rw [List.take_length] at hF;subst hF;exact eQ [] (by exact ⟨rfl,rfl⟩)
 (conv=>whnf);have hjl := of_decide_eq_true hd;have hw : IntKind.i64.wrap ((j : Int) + 1) = ((j + 1 : Nat) : Int) := wrap_i64 (by omega) (by omega);refine ⟨rfl,by omega,by omega,?_⟩;(conv=>whnf);refine ⟨by omega,(by decide : 0 + 2 ≤ 2),?_⟩;rw [show l.getD (Int.toNat (j : Int)) (S.zero .grp) = l.getD j (S.zero .grp) by rw [Int.toNat_natCast]];have hx := getD_at (show j < l.length by omega) (S.zero .grp);have hgx := hg _ (List.mem_of_getElem? hx);have ht := take_succ' hx;generalize l.getD j (S.zero .grp) = g at hx hgx ht;obtain ⟨ty,ex⟩ := g;obtain ⟨t,ht0,htl,htg⟩ := hgx;simp only at ht0;subst ht0;have hF2 : typesN (l.take (j + 1)) = c + t.length := by rw [ht,hF]; simp [typesN]
 have hwe : IntKind.i64.wrap ((c : Int) + t.length) = ((c + t.length : Nat) : Int) := wrap_i64 (by omega) (by omega);(conv=>whnf);rw [hwe];refine ⟨[],[],relo_of [] (by rfl) (by rfl),?_⟩;refine ⟨⟨j + 1,c + t.length,by omega,by omega,hF2.symm,congrArg (ctV l (c + t.length)) hw,rfl⟩,?_⟩;show l.length - (IntKind.i64.wrap ((j : Int) + 1)).toNat < l.length - (j : Int).toNat;rw [hw]; omega
noncomputable def sameF (l : List El_grp) (x y : Int) : Bool :=
 (addL 9223372036854775807 cs0 [] 0 l).2.1.getD x.toNat 0 == (addL 9223372036854775807 (addL 9223372036854775807 cs0 [] 0 l).1 [] 0 l).2.1.getD y.toNat 0
theorem c_One (l : List El_grp) (hl : l.length ≤ 1048576) (hg : ∀ g ∈ l,good_grp 1048576 g) (hcz : (closedF l).2 = 0) (x y : Int) (hx : 0 ≤ x ∧ x < typesN l) (hy : 0 ≤ y ∧ y < typesN l) :
    SpecD S 229 [.imm .grp l,.imm .grp l,.int .i64 x,.int .i64 y] [] (.tup [.bool (sameF l x y),.int .i64 0]) [] := by
 have hcl := c_Closed l hl hg;have hct := c_Count l hl hg;have had := c_addN1 9223372036854775807 l hl hg
 change SpecD _ _ _ _ (adR (addL 9223372036854775807 cs0 [] 0 l)) (adHR [.bool true] (addL 9223372036854775807 cs0 [] 0 l)) at had
 have h1 := addL_most (most := 9223372036854775807) (by decide) l cs0 [] 0 0 rfl hg (cs0_ok 0) (by omega) (ids0_ok _);have h2 := addL_okCS (most := 9223372036854775807) l cs0 [] 0 0 rfl hg (cs0_ok 0) (by omega) (ids0_ok _);have h3 := addL_res (most := 9223372036854775807) l cs0 [] 0 rfl;unfold sameF;generalize addL 9223372036854775807 cs0 [] 0 l = a at had h1 h2 h3 ⊢;obtain ⟨s,ids,b⟩ := a;simp only at h1 h3;subst h1
 change SpecD _ _ _ _ (.tup [.own .int 3 0 ids.length .whole,.int .i64 (-1)]) (adH [.bool true] s ids) at had
 have hs : okCS s 1099511627776 := ⟨h2.1.es,fun f hf => by have := h2.1.fams f hf; omega,by have := h2.1.many; simp only at this; omega,by have := h2.1.len; simp only at this; omega⟩
 have hil : ids.length = typesN l := by
  rcases h3 with ⟨_,h⟩ | h
  · simpa using h
  · omega
 have had2 := c_add2 9223372036854775807 (by decide) l hl hg s hs;have h4 := addL_most (most := 9223372036854775807) (by decide) l s [] 0 1099511627776 rfl hg hs (by omega) (ids0_ok _);have h5 := addL_res (most := 9223372036854775807) l s [] 0 rfl;show SpecD _ _ _ _ (.tup [.bool (ids.getD x.toNat 0 == (addL 9223372036854775807 s [] 0 l).2.1.getD y.toNat 0),.int .i64 0]) _;generalize addL 9223372036854775807 s [] 0 l = a2 at had2 h4 h5 ⊢;obtain ⟨s2,ids2,b2⟩ := a2;simp only at h4 h5;subst h4
 have hil2 : ids2.length = typesN l := by
  rcases h5 with ⟨_,h⟩ | h
  · simpa using h
  · omega
 have hx0 := hx;have hy0 := hy;generalize closedF l = z at hcl hcz;obtain ⟨za,ze⟩ := z;simp only at hcz;subst hcz;unfold pairV at hcl;refine specE ok sh229 rfl ?_;(conv=>whnf);refine cQ [] hcl ?_;(conv=>whnf);refine cQ [] hcl ?_;(conv=>whnf);cases hd1 : decide (x < 0)
 rotate_left
 · have := of_decide_eq_true hd1; omega
 (conv=>whnf);refine cQ [] hct ?_;(conv=>whnf);cases hd2 : decide ((typesN l : Int) ≤ x)
 rotate_left
 · have := of_decide_eq_true hd2; omega
 (conv=>whnf);cases hd3 : decide (y < 0)
 rotate_left
 · have := of_decide_eq_true hd3; omega
 (conv=>whnf);refine cQ [] hct ?_;(conv=>whnf);cases hd4 : decide ((typesN l : Int) ≤ y)
 rotate_left
 · have := of_decide_eq_true hd4; omega
 (conv=>whnf);refine cQ [] c_New ?_;(conv=>whnf);refine cQ [0,1] had ?_;conv=>whnf
 have had3 := had2.fade (R' := fun r H' => r = .tup [.own .int 3 0 ids2.length .whole,.int .i64 (-1)] ∧ H' = [.gone,.gone,.gone,.row .int ids2]) fun r H' h => by
  obtain ⟨h1,o0,o1,o2,rfl⟩ := h;exact ⟨_,fades3 _ _ _ _,h1,rfl⟩
 refine rQ [0,1,2] had3 ?_;rintro r H' ⟨rfl,rfl⟩;(conv=>whnf);refine ⟨rfl,hx.1,by show x < (ids.length : Int); omega,?_⟩;(conv=>whnf);refine ⟨rfl,by omega,(by decide : 0 + 1 ≤ 1),?_⟩;rw [show ids.getD (0 + Int.toNat x) (S.zero .int) = ids.getD (Int.toNat x) (S.zero .int) by rw [Nat.zero_add]];(conv=>whnf);refine ⟨rfl,hy.1,by show y < (ids2.length : Int); omega,?_⟩;(conv=>whnf);refine ⟨rfl,by omega,(by decide : 0 + 1 ≤ 1),?_⟩;rw [show ids2.getD (0 + Int.toNat y) (S.zero .int) = ids2.getD (Int.toNat y) (S.zero .int) by rw [Nat.zero_add]];(conv=>whnf);exact eQ [] (by exact ⟨rfl,rfl⟩)
theorem c_Same (l : List El_grp) (hl : l.length ≤ 1048576) (hg : ∀ g ∈ l,good_grp 1048576 g) (hcz : (closedF l).2 = 0) (x y : Int) (hx : 0 ≤ x ∧ x < typesN l) (hy : 0 ≤ y ∧ y < typesN l) :
    SpecD S 210 [.imm .grp l,.int .i64 x,.int .i64 y] [] (.tup [.bool (sameF l x y),.int .i64 0]) [] := by
 have hc := c_One l hl hg hcz x y hx hy;generalize sameF l x y = b at hc ⊢;refine specE ok sh210 rfl ?_;(conv=>whnf);refine cQ [] hc ?_;(conv=>whnf);exact eQ [] (by exact ⟨rfl,rfl⟩)
end Sh
end Go.Proofs.YtomdfaelgcefdaaGreatDoor
namespace Go.Proofs.YtomdfaelgcefdaaGreatDoor
open Go
namespace Sh
noncomputable def dupL (l : List El_grp) : Nat → List Int
 | 0 => []
 | i + 1 => dupL l i ++ [match (List.range i).find? (fun (k : Nat) => sameF l i k) with
  | some (k : Nat) => (dupL l i).getD k 0
  | none => (i : Int)]
theorem dupL_len (l : List El_grp) : ∀ i,(dupL l i).length = i
 | 0 => rfl
 | i + 1 => by rw [dupL,List.length_append,dupL_len l i]; rfl
noncomputable def idsF (l : List El_grp) : List Int := match idsA l with
 | some ids => ids
 | none => dupL l (typesN l)
theorem idsA_len {l : List El_grp} {ids : List Int} (h : idsA l = some ids) : ids.length = typesN l := by
 unfold idsA at h;split at h
 · rename_i hc;simp only [Option.some.injEq] at h;have := addL_res (most := 10000) l cs0 [] 0 (s' := (addL 10000 cs0 [] 0 l).1) (ids' := (addL 10000 cs0 [] 0 l).2.1) (b := (addL 10000 cs0 [] 0 l).2.2) rfl;rw [h] at this
   rcases this with ⟨_,h2⟩ | h2
   · simpa using h2
   · have := hc.2; omega
 · cases h
theorem idsF_len (l : List El_grp) : (idsF l).length = typesN l := by
 unfold idsF;split
 · rename_i h; exact idsA_len h
 · exact dupL_len l _
theorem set_mid {α : Type} (a : List α) (x y : α) (b : List α) {i : Nat} (h : a.length = i) : (a ++ x :: b).set i y = a ++ y :: b := by
 subst h;simp
def idV (l : List El_grp) (n : Nat) (i : Int) : List V := [.imm .grp l,.own .int 0 0 n .whole,.int .i64 n,.int .i64 i]
def idV2 (l : List El_grp) (n : Nat) (i k : Int) : List V := [.imm .grp l,.own .int 0 0 n .whole,.int .i64 i,.int .i64 n,.int .i64 i,.int .i64 i,.int .i64 k]
theorem c_ids (l : List El_grp) (hl : l.length ≤ 1048576) (hg : ∀ g ∈ l,good_grp 1048576 g) (hcz : (closedF l).2 = 0) :
    SpecD S 187 [.imm .grp l,.int .i64 (typesN l)] [] (.own .int 0 0 (typesN l) .whole) [.row .int (idsF l)] := by
 have hA := c_Add l hl hg;have hlen := @idsA_len l;have hT := typesN_le hg;have hSame := c_Same l hl hg hcz;unfold idsF;refine specE ok sh187 rfl ?_;(conv=>whnf);refine cQ [] c_New ?_;(conv=>whnf);refine rQ [0,1] hA ?_;intro r H' hr
 cases hids : idsA l with
 | some ids =>
  rw [hids] at hr;obtain ⟨rfl,rfl⟩ := hr;have := hlen hids;(conv=>whnf);refine eQ [2] ⟨?_,rfl⟩;rw [← this];rfl
 | none =>
  rw [hids] at hr;obtain ⟨a,e,he,rfl,rfl⟩ := hr;(conv=>whnf);cases he' : (e == 0)
  rotate_left
  · exact absurd (by simpa using he') he
  (conv=>whnf);refine ⟨by omega,rfl,fits_big (by show typesN l ≤ _; omega) (by decide),?_⟩;(conv=>whnf);generalize hn : typesN l = n at *
  refine loop_of [] [2] (fun vs H => ∃ i : Nat,i ≤ n ∧ vs = idV l n i ∧ H = [.row .int (dupL l i ++ List.replicate (n - i) 0)])
   (fun vs _ => match vs with | [_,_,_,.int _ j] => n - j.toNat | _ => 0) (by rfl) (by rfl) (by rfl) (by rfl) ⟨0,Nat.zero_le _,rfl,rfl⟩ ?_
  rintro vs H1 ⟨i,hi,rfl,rfl⟩;(conv=>whnf);cases hd : decide ((i : Int) < n)
  · (conv=>whnf);have := of_decide_eq_false hd;obtain rfl : i = n := by omega
    refine eQ [0] ⟨rfl,?_⟩;rw [Nat.sub_self,List.replicate_zero,List.append_nil];rfl
  · (conv=>whnf);have hil := of_decide_eq_true hd;have hw : IntKind.i64.wrap ((i : Int) + 1) = ((i + 1 : Nat) : Int) := wrap_i64 (by omega) (by omega);obtain ⟨m,hm⟩ : ∃ m,n - i = m + 1 := ⟨n - i - 1,by omega⟩;have hm2 : n - (i + 1) = m := by omega
    rw [hm,List.replicate_succ];have hdl := dupL_len l i;refine ⟨rfl,by omega,by show (i : Int) < (n : Int); omega,?_⟩;(conv=>whnf);refine ⟨rfl,by simp; omega,by show 0 + 1 ≤ 1; omega,?_⟩;conv=>whnf
    refine loop_of [] [0] (fun vs H => ∃ k : Nat,k ≤ i ∧ (∀ k' : Nat,k' < k → sameF l i k' = false) ∧ vs = idV2 l n i k ∧ H = [.row .int (dupL l i ++ (i : Int) :: List.replicate m 0)])
     (fun vs _ => match vs with | [_,_,_,_,_,_,.int _ j] => i - j.toNat | _ => 0) (by rfl) (by rfl) (by rfl) (by rfl) ⟨0,Nat.zero_le _,fun _ h => by omega,rfl,by
      show ([.row .int ((dupL l i ++ 0 :: List.replicate m 0).set (0 + (i : Int).toNat) (i : Int))] : Heap KT ElT) = _
      rw [Nat.zero_add,Int.toNat_natCast,set_mid _ _ _ _ hdl]⟩ ?_
    rintro vs H1 ⟨k,hk,hno,rfl,rfl⟩;(conv=>whnf);cases hd2 : decide ((k : Int) < i)
    · (conv=>whnf);have := of_decide_eq_false hd2;obtain rfl : k = i := by omega
      have hf : (List.range k).find? (fun (k' : Nat) => sameF l k k') = none := by
       rw [List.find?_range_eq_none];intro q hq;rw [hno q hq];rfl
      refine ⟨[0],[],relo_of [0] (by rfl) (by rfl),?_⟩;refine ⟨⟨k + 1,by omega,congrArg (idV l n) hw,?_⟩,?_⟩
      · rw [hm2,dupL,hf,List.append_assoc];rfl
      · show n - (IntKind.i64.wrap ((k : Int) + 1)).toNat < n - (k : Int).toNat;rw [hw]; omega
    · (conv=>whnf);have hkl := of_decide_eq_true hd2;have hwk : IntKind.i64.wrap ((k : Int) + 1) = ((k + 1 : Nat) : Int) := wrap_i64 (by omega) (by omega);have hc := hSame i k (by omega) (by omega);cases hsm : sameF l i k
      · rw [hsm] at hc;refine cQ [] hc ?_;(conv=>whnf);refine ⟨[0],[],relo_of [0] (by rfl) (by rfl),?_⟩;refine ⟨⟨k + 1,by omega,fun k' h => ?_,congrArg (idV2 l n i) hwk,rfl⟩,?_⟩
        · by_cases h2 : k' = k
          · subst h2; exact hsm
          · exact hno k' (by omega)
        · show i - (IntKind.i64.wrap ((k : Int) + 1)).toNat < i - (k : Int).toNat;rw [hwk]; omega
      · rw [hsm] at hc
        have hf : (List.range i).find? (fun (k' : Nat) => sameF l i k') = some k := by
         rw [List.find?_range_eq_some];refine ⟨hsm,by simp; omega,fun q hq => ?_⟩;rw [hno q hq];rfl
        refine cQ [] hc ?_;(conv=>whnf);refine ⟨rfl,by omega,by show (k : Int) < (n : Int); omega,?_⟩;(conv=>whnf);refine ⟨rfl,by simp; omega,(by decide : 0 + 1 ≤ 1),?_⟩;(conv=>whnf);refine ⟨rfl,by omega,by show (i : Int) < (n : Int); omega,?_⟩;(conv=>whnf);refine ⟨rfl,by simp; omega,by show 0 + 1 ≤ 1; omega,?_⟩;(conv=>whnf);refine ⟨[0],[],relo_of [0] (by rfl) (by rfl),?_⟩;refine ⟨⟨i + 1,by omega,congrArg (idV l n) hw,?_⟩,?_⟩
        · show ([.row .int ((dupL l i ++ (i : Int) :: List.replicate m 0).set (0 + (i : Int).toNat) ((dupL l i ++ (i : Int) :: List.replicate m 0).getD (0 + (k : Int).toNat) 0))] : Heap KT ElT) = _;rw [hm2,dupL,hf,Nat.zero_add,Nat.zero_add,Int.toNat_natCast,Int.toNat_natCast,set_mid _ _ _ _ hdl,List.append_assoc]
          have e : (dupL l i ++ (i : Int) :: List.replicate m 0).getD k 0 = (dupL l i).getD k 0 := by
           simp only [List.getD_eq_getElem?_getD];rw [List.getElem?_append_left (by omega)]
          rw [e];rfl
        · show n - (IntKind.i64.wrap ((i : Int) + 1)).toNat < n - (i : Int).toNat;rw [hw]; omega
end Sh
end Go.Proofs.YtomdfaelgcefdaaGreatDoor
namespace Go.Proofs.YtomdfaelgcefdaaGreatDoor
open Go
namespace Sh
def ctxC (l : List El_grp) (n : Nat) : AO KT ElT := .cells [.imm .grp l,.own .int 1 0 n .whole,.own .sub 2 0 n .whole]
noncomputable def ctxH (l : List El_grp) : Heap KT ElT := [ctxC l (typesN l),.row .int (idsF l),.row .sub (flat l)]
def opR (l : List El_grp) : V := if (closedF l).2 = 0 then .tup [.ptr 0 0,.bool true] else .tup [.nilp,.bool false]
noncomputable def opH (l : List El_grp) : Heap KT ElT := if (closedF l).2 = 0 then ctxH l else []
def opV (l : List El_grp) (j : Int) : List V := [.imm .grp l,.ptr 0 0,.imm .grp l,.int .i64 l.length,.int .i64 j]
theorem typesN_app (a b : List El_grp) : typesN (a ++ b) = typesN a + typesN b := by simp [typesN]
theorem fits_sub {n : Nat} (hn : n ≤ 1099511627776) : fits S .sub n := by
 refine ⟨by unfold maxLen; omega,?_⟩;show n * 112 ≤ _;omega
theorem c_opened (l : List El_grp) (hl : l.length ≤ 1048576) (hg : ∀ g ∈ l,good_grp 1048576 g) :
    SpecD S 154 [.imm .grp l] [] (opR l) (opH l) := by
 have hcl := c_Closed l hl hg;have hids := c_ids l hl hg;have hT := typesN_le hg;have hfl := flat_len l;have hil := idsF_len l;unfold opR opH ctxH;generalize closedF l = y at hcl hids ⊢;obtain ⟨a,e⟩ := y;unfold pairV at hcl;refine specE ok sh154 rfl ?_;(conv=>whnf);refine cQ [] hcl ?_;(conv=>whnf);cases he : (e == 0)
 · have he' : ¬ e = 0 := by simpa using he
   simp only [bne,he];(conv=>whnf);refine eQ [] ⟨?_,?_⟩
   · rw [if_neg he']; rfl
   · rw [if_neg he']; rfl
 · have he' : e = 0 := by simpa using he
   subst he';simp only [bne,he];have hids := hids rfl;conv=>whnf
   refine loop_of [.cell 0 2 .sub] [0,1] (fun vs H => ∃ (j m : Nat) (xs : List El_sub),j ≤ l.length ∧ m = xs.length ∧ xs = flat (l.take j) ∧ vs = opV l j ∧ H = [.cells [.imm .grp l,.nils,.own .sub 1 0 m .whole],.row .sub xs])
    (fun vs _ => match vs with | [_,_,_,_,.int _ j] => l.length - j.toNat | _ => 0) (by rfl) (by rfl) (by rfl) (by rfl) ⟨0,0,[],Nat.zero_le _,rfl,rfl,rfl,rfl⟩ ?_
   rintro vs H1 ⟨j,m,xs,hj,hm,hxs,rfl,rfl⟩;(conv=>whnf);cases hd : decide ((j : Int) < l.length)
   · (conv=>whnf);have := of_decide_eq_false hd;obtain rfl : j = l.length := by omega
     rw [List.take_length] at hxs;subst hxs;rw [hfl] at hm;subst hm;cases hz : decide ((0 : Int) < typesN l)
     · have h0 : typesN l = 0 := by have := of_decide_eq_false hz; omega
       have e1 : idsF l = [] := List.eq_nil_of_length_eq_zero (by omega);(conv=>whnf);refine endG_of [.cell 0 1 .int] [0,2,1] (by rfl) (by rfl) (by rfl) (by rfl) ⟨rfl,?_⟩;show _ = ([ctxC l (typesN l),.row .int (idsF l),.row .sub (flat l)] : Heap KT ElT);rw [e1,h0];rfl
     · (conv=>whnf);refine cQ [] hids ?_;(conv=>whnf);exact eQ [0,2,1] (by exact ⟨rfl,rfl⟩)
   · (conv=>whnf);have hjl := of_decide_eq_true hd;have hw : IntKind.i64.wrap ((j : Int) + 1) = ((j + 1 : Nat) : Int) := wrap_i64 (by omega) (by omega);refine ⟨rfl,by omega,by omega,?_⟩;(conv=>whnf);refine ⟨by omega,(by decide : 0 + 2 ≤ 2),?_⟩;rw [show l.getD (Int.toNat (j : Int)) (S.zero .grp) = l.getD j (S.zero .grp) by rw [Int.toNat_natCast]];have hx := getD_at (show j < l.length by omega) (S.zero .grp);have hgx := hg _ (List.mem_of_getElem? hx);have ht := take_succ' hx
     have hle : typesN (l.take (j + 1)) ≤ typesN l := by
      have := typesN_app (l.take (j + 1)) (l.drop (j + 1));rw [List.take_append_drop] at this;omega
     generalize l.getD j (S.zero .grp) = g at hx hgx ht;obtain ⟨ty,ex⟩ := g;obtain ⟨t,ht0,htl,htg⟩ := hgx;simp only at ht0;subst ht0;have hF : flat (l.take (j + 1)) = xs ++ t := by rw [ht,hxs]; simp [flat]
     have hFl : m + t.length = typesN (l.take (j + 1)) := by rw [← flat_len,hF,List.length_append,hm]
     (conv=>whnf);refine ⟨rfl,by show 0 + m ≤ xs.length; omega,fits_sub (by show m + t.length ≤ _; omega),rfl,?_⟩;(conv=>whnf);refine tQ ?_;(conv=>whnf);refine ⟨[0,3],[],relo_of [0,3] (by rfl) (by rfl),?_⟩;refine ⟨⟨j + 1,m + t.length,xs ++ t,by omega,by simp [hm],hF.symm,congrArg (opV l) hw,?_⟩,?_⟩
     · have e : xs.take m = xs := by rw [hm,List.take_length]
       conv => rhs; rw [← e]
       rfl
     · show l.length - (IntKind.i64.wrap ((j : Int) + 1)).toNat < l.length - (j : Int).toNat;rw [hw]; omega
end Sh
end Go.Proofs.YtomdfaelgcefdaaGreatDoor
namespace Go.Proofs.YtomdfaelgcefdaaGreatDoor
open Go
namespace Sh
def upF (h : Int) : Int := if h = -2 then -1 else if h = -4 then -3 else if h = -6 then -5 else if h = -7 ∨ h = -8 ∨ h = -9 then -6 else if h = -12 then -11 else 0
def rkF (h : Int) : Nat := if h = 0 then 0 else if h = -7 ∨ h = -8 ∨ h = -9 then 3 else if h = -2 ∨ h = -4 ∨ h = -6 ∨ h = -12 then 2 else 1
def famF (h : Int) : Int := if h = -1 ∨ h = -2 then -1 else if h = -3 ∨ h = -4 then -3 else if h = -11 ∨ h = -12 then -11 else -5
def chN : Nat → Int → Int → Bool
 | 0,a,b => a == b
 | n + 1,a,b => if a = 0 ∨ a = b then a == b else chN n (upF a) b
def absF (a b : Int) : Bool := if a = -10 then b == -10 || famF b == -5 else chN 3 a b
theorem negs {h : Int} (h0 : -12 ≤ h) (h1 : h < 0) : h = -1 ∨ h = -2 ∨ h = -3 ∨ h = -4 ∨ h = -5 ∨ h = -6 ∨ h = -7 ∨ h = -8 ∨ h = -9 ∨ h = -10 ∨ h = -11 ∨ h = -12 := by omega
theorem upF_rk {h : Int} (h0 : -12 ≤ h) (h1 : h < 0) : rkF (upF h) < rkF h ∧ -12 ≤ upF h ∧ upF h ≤ 0 ∧ rkF h ≤ 3 := by
 rcases negs h0 h1 with rfl | rfl | rfl | rfl | rfl | rfl | rfl | rfl | rfl | rfl | rfl | rfl <;> decide
theorem c_up (h : Int) (h0 : -12 ≤ h) (h1 : h < 0) : SpecD S 211 [.int .i64 h] [] (.int .i64 (upF h)) [] := by
 rcases negs h0 h1 with rfl | rfl | rfl | rfl | rfl | rfl | rfl | rfl | rfl | rfl | rfl | rfl
 · refine specE ok sh211 rfl ?_;(conv=>whnf);refine ⟨by decide,by decide,by decide,?_⟩;(conv=>whnf);exact eQ [] (by exact ⟨rfl,rfl⟩)
 · refine specE ok sh211 rfl ?_;(conv=>whnf);refine ⟨by decide,by decide,by decide,?_⟩;(conv=>whnf);exact eQ [] (by exact ⟨rfl,rfl⟩)
 · refine specE ok sh211 rfl ?_;(conv=>whnf);refine ⟨by decide,by decide,by decide,?_⟩;(conv=>whnf);exact eQ [] (by exact ⟨rfl,rfl⟩)
 · refine specE ok sh211 rfl ?_;(conv=>whnf);refine ⟨by decide,by decide,by decide,?_⟩;(conv=>whnf);exact eQ [] (by exact ⟨rfl,rfl⟩)
 · refine specE ok sh211 rfl ?_;(conv=>whnf);refine ⟨by decide,by decide,by decide,?_⟩;(conv=>whnf);exact eQ [] (by exact ⟨rfl,rfl⟩)
 · refine specE ok sh211 rfl ?_;(conv=>whnf);refine ⟨by decide,by decide,by decide,?_⟩;(conv=>whnf);exact eQ [] (by exact ⟨rfl,rfl⟩)
 · refine specE ok sh211 rfl ?_;(conv=>whnf);refine ⟨by decide,by decide,by decide,?_⟩;(conv=>whnf);exact eQ [] (by exact ⟨rfl,rfl⟩)
 · refine specE ok sh211 rfl ?_;(conv=>whnf);refine ⟨by decide,by decide,by decide,?_⟩;(conv=>whnf);exact eQ [] (by exact ⟨rfl,rfl⟩)
 · refine specE ok sh211 rfl ?_;(conv=>whnf);refine ⟨by decide,by decide,by decide,?_⟩;(conv=>whnf);exact eQ [] (by exact ⟨rfl,rfl⟩)
 · refine specE ok sh211 rfl ?_;(conv=>whnf);refine ⟨by decide,by decide,by decide,?_⟩;(conv=>whnf);exact eQ [] (by exact ⟨rfl,rfl⟩)
 · refine specE ok sh211 rfl ?_;(conv=>whnf);refine ⟨by decide,by decide,by decide,?_⟩;(conv=>whnf);exact eQ [] (by exact ⟨rfl,rfl⟩)
 · refine specE ok sh211 rfl ?_;(conv=>whnf);refine ⟨by decide,by decide,by decide,?_⟩;(conv=>whnf);exact eQ [] (by exact ⟨rfl,rfl⟩)
theorem c_family (h : Int) (h0 : -12 ≤ h) (h1 : h < 0) : SpecD S 189 [.int .i64 h] [] (.int .i64 (famF h)) [] := by
 refine specE ok sh189 rfl ?_;conv=>whnf
 refine loop_of [] [] (fun vs H => ∃ g : Int,-12 ≤ g ∧ g < 0 ∧ famF g = famF h ∧ vs = [.int .i64 g] ∧ H = [])
  (fun vs _ => match vs with | [.int _ j] => rkF j | _ => 0) (by rfl) (by rfl) (by rfl) (by rfl) ⟨h,h0,h1,rfl,rfl,rfl⟩ ?_
 rintro vs H1 ⟨g,hg0,hg1,hF,rfl,rfl⟩;rw [← hF];have hu := c_up g hg0 hg1
 rcases negs hg0 hg1 with rfl | rfl | rfl | rfl | rfl | rfl | rfl | rfl | rfl | rfl | rfl | rfl
 · (conv=>whnf);exact eQ [] (by exact ⟨rfl,rfl⟩)
 · (conv=>whnf);refine cQ [] hu ?_;(conv=>whnf);refine ⟨[],[],relo_of [] (by rfl) (by rfl),?_⟩;exact ⟨⟨upF (-2),by decide,by decide,by decide,rfl,rfl⟩,by decide⟩
 · (conv=>whnf);exact eQ [] (by exact ⟨rfl,rfl⟩)
 · (conv=>whnf);refine cQ [] hu ?_;(conv=>whnf);refine ⟨[],[],relo_of [] (by rfl) (by rfl),?_⟩;exact ⟨⟨upF (-4),by decide,by decide,by decide,rfl,rfl⟩,by decide⟩
 · (conv=>whnf);exact eQ [] (by exact ⟨rfl,rfl⟩)
 · (conv=>whnf);refine cQ [] hu ?_;(conv=>whnf);refine ⟨[],[],relo_of [] (by rfl) (by rfl),?_⟩;exact ⟨⟨upF (-6),by decide,by decide,by decide,rfl,rfl⟩,by decide⟩
 · (conv=>whnf);refine cQ [] hu ?_;(conv=>whnf);refine ⟨[],[],relo_of [] (by rfl) (by rfl),?_⟩;exact ⟨⟨upF (-7),by decide,by decide,by decide,rfl,rfl⟩,by decide⟩
 · (conv=>whnf);refine cQ [] hu ?_;(conv=>whnf);refine ⟨[],[],relo_of [] (by rfl) (by rfl),?_⟩;exact ⟨⟨upF (-8),by decide,by decide,by decide,rfl,rfl⟩,by decide⟩
 · (conv=>whnf);refine cQ [] hu ?_;(conv=>whnf);refine ⟨[],[],relo_of [] (by rfl) (by rfl),?_⟩;exact ⟨⟨upF (-9),by decide,by decide,by decide,rfl,rfl⟩,by decide⟩
 · (conv=>whnf);exact eQ [] (by exact ⟨rfl,rfl⟩)
 · (conv=>whnf);exact eQ [] (by exact ⟨rfl,rfl⟩)
 · (conv=>whnf);refine cQ [] hu ?_;(conv=>whnf);refine ⟨[],[],relo_of [] (by rfl) (by rfl),?_⟩;exact ⟨⟨upF (-12),by decide,by decide,by decide,rfl,rfl⟩,by decide⟩
theorem c_is (l : List El_grp) (h : Int) : SpecD S 155 [.ptr 0 0,.int .i64 h] (ctxH l) (.bool (decide (-12 ≤ h) && decide (h < typesN l))) (ctxH l) := by
 refine specE ok sh155 rfl ?_;(conv=>whnf);cases hd : decide (-12 ≤ h)
 · (conv=>whnf);exact eQ [0,1,2] (by exact ⟨rfl,rfl⟩)
 · (conv=>whnf);exact eQ [0,1,2] (by exact ⟨rfl,rfl⟩)
def knF (l : List El_grp) (n : Nat) : Int := match (flat l)[n]? with
 | some s => if s.kind = 1 then -1 else if s.kind = 2 then -8 else -9
 | none => 0
theorem c_kind (l : List El_grp) (n : Nat) (hn : n < typesN l) : SpecD S 188 [.ptr 0 0,.int .i64 n] (ctxH l) (.int .i64 (knF l n)) (ctxH l) := by
 have hf := flat_len l;have hx := getD_at (show n < (flat l).length by omega) (S.zero .sub);unfold knF;rw [hx];unfold ctxH;generalize hT : typesN l = m at *;refine specE ok sh188 rfl ?_;(conv=>whnf);refine ⟨rfl,by omega,by show (n : Int) < (m : Int); omega,?_⟩;(conv=>whnf);refine ⟨rfl,by omega,(by decide : 2 + 1 ≤ 6),?_⟩;rw [show (flat l).getD (0 + Int.toNat (n : Int)) (S.zero .sub) = (flat l).getD n (S.zero .sub) by rw [Nat.zero_add,Int.toNat_natCast]];generalize (flat l).getD n (S.zero .sub) = x at hx;obtain ⟨fi,sa,sk,sp,sr,sf⟩ := x;(conv=>whnf);cases h1 : (sk == 1)
 · have h1' : ¬ sk = 1 := by simpa using h1
   (conv=>whnf);cases h2 : (sk == 2)
   · have h2' : ¬ sk = 2 := by simpa using h2
     (conv=>whnf);refine eQ [0,1,2] ⟨?_,rfl⟩;simp only [h1',h2',if_false];rfl
   · have h2' : sk = 2 := by simpa using h2
     (conv=>whnf);refine eQ [0,1,2] ⟨?_,rfl⟩;simp only [h2',if_true];rfl
 · have h1' : sk = 1 := by simpa using h1
   (conv=>whnf);refine eQ [0,1,2] ⟨?_,rfl⟩;simp only [h1',if_true];rfl
theorem knF_rng (l : List El_grp) (n : Nat) (hn : n < typesN l) : -12 ≤ knF l n ∧ knF l n < 0 := by
 have hf := flat_len l;have hx := getD_at (show n < (flat l).length by omega) (S.zero .sub);unfold knF;rw [hx];simp only;split
 · decide
 · split <;> decide
theorem c_top (l : List El_grp) (h : Int) (h0 : -12 ≤ h) (h1 : h < typesN l) :
    SpecD S 156 [.ptr 0 0,.int .i64 h] (ctxH l) (.int .i64 (if 0 ≤ h then famF (knF l h.toNat) else famF h)) (ctxH l) := by
 by_cases hz : 0 ≤ h
 · obtain ⟨n,rfl⟩ : ∃ n : Nat,h = n := ⟨h.toNat,by omega⟩;rw [if_pos hz];have hk := knF_rng l n (by omega);have hc := c_kind l n (by omega);have hf := c_family _ hk.1 hk.2;rw [show (n : Int).toNat = n from Int.toNat_natCast n];generalize knF l n = y at hc hf ⊢;generalize famF y = z at hf ⊢;unfold ctxH at hc ⊢;refine specE ok sh156 rfl ?_;(conv=>whnf);cases hd : decide (0 ≤ (n : Int))
   · exact absurd (of_decide_eq_false hd) (by omega)
   (conv=>whnf);refine cQ [0,1,2] hc ?_;(conv=>whnf);refine cQ [] hf ?_;(conv=>whnf);exact eQ [0,1,2] (by exact ⟨rfl,rfl⟩)
 · rw [if_neg hz];have hf := c_family h h0 (by omega);generalize famF h = z at hf ⊢;unfold ctxH;refine specE ok sh156 rfl ?_;(conv=>whnf);cases hd : decide (0 ≤ h)
   rotate_left
   · exact absurd (of_decide_eq_true hd) hz
   (conv=>whnf);refine cQ [] hf ?_;(conv=>whnf);exact eQ [0,1,2] (by exact ⟨rfl,rfl⟩)
theorem chN_fuel : ∀ (n m : Nat) (a b : Int),-12 ≤ a → a ≤ 0 → rkF a ≤ n → rkF a ≤ m → chN n a b = chN m a b := by
 intro n
 induction n with
 | zero =>
  intro m a b h0 h1 hn _
  have ha : a = 0 := by
   by_cases h : a = 0
   · exact h
   · have := (upF_rk h0 (by omega)).1; omega
  subst ha
  cases m with
  | zero => rfl
  | succ m => simp [chN]
 | succ n ih =>
  intro m a b h0 h1 hn hm
  by_cases h : a = 0 ∨ a = b
  · have e1 : chN (n + 1) a b = (a == b) := by simp only [chN,if_pos h]
    rw [e1]
    cases m with
    | zero => rfl
    | succ m => simp only [chN,if_pos h]
  · have hu := upF_rk (h := a) h0 (by omega)
    cases m with
    | zero => omega
    | succ m =>
     simp only [chN,if_neg h];exact ih m (upF a) b hu.2.1 hu.2.2.1 (by omega) (by omega)
theorem c_abstract (a b : Int) (ha0 : -12 ≤ a) (ha1 : a < 0) (hb0 : -12 ≤ b) (hb1 : b < 0) : SpecD S 212 [.int .i64 a,.int .i64 b] [] (.bool (absF a b)) [] := by
 have hf := c_family b hb0 hb1;unfold absF;refine specE ok sh212 rfl ?_;(conv=>whnf);cases hd : (a == -10)
 · have hd' : ¬ a = -10 := by simpa using hd
   rw [if_neg hd'];conv=>whnf
   refine loop_of [] [] (fun vs H => ∃ g : Int,-12 ≤ g ∧ g ≤ 0 ∧ chN 3 a b = chN 3 g b ∧ vs = [.int .i64 g,.int .i64 b] ∧ H = [])
    (fun vs _ => match vs with | [.int _ j,_] => rkF j | _ => 0) (by rfl) (by rfl) (by rfl) (by rfl) ⟨a,ha0,by omega,rfl,rfl,rfl⟩ ?_
   rintro vs H1 ⟨g,hg0,hg1,hF,rfl,rfl⟩;(conv=>whnf);cases h1 : (g == 0)
   · have h1' : ¬ g = 0 := by simpa using h1
     simp only [bne,h1];(conv=>whnf);cases h2 : (g == b)
     · have h2' : ¬ g = b := by simpa using h2
       simp only [bne,h2];(conv=>whnf);have hu := upF_rk (h := g) hg0 (by omega);have hc := c_up g hg0 (by omega);have e : chN 3 g b = chN 2 (upF g) b := by simp only [chN,if_neg (show ¬ (g = 0 ∨ g = b) by omega)]
       refine cQ [] hc ?_;(conv=>whnf);refine ⟨[],[],relo_of [] (by rfl) (by rfl),?_⟩;refine ⟨⟨upF g,hu.2.1,hu.2.2.1,?_,rfl,rfl⟩,hu.1⟩;rw [hF,e];exact chN_fuel 2 3 _ b hu.2.1 hu.2.2.1 (by omega) (by omega)
     · simp only [bne,h2];(conv=>whnf);refine eQ [] ⟨?_,rfl⟩;have h2' : g = b := by simpa using h2
       have e : chN 3 g b = (g == b) := by simp only [chN,if_pos (show (g = 0 ∨ g = b) from .inr h2')]
       rw [hF,e,h2];rfl
   · have h1' : g = 0 := by simpa using h1
     simp only [bne,h1];(conv=>whnf);refine eQ [] ⟨?_,rfl⟩;have e : chN 3 g b = (g == b) := by simp only [chN,if_pos (show (g = 0 ∨ g = b) from .inl h1')]
     rw [hF,e];rfl
 · have hd' : a = -10 := by simpa using hd
   rw [if_pos hd'];(conv=>whnf);cases h1 : (b == -10)
   · (conv=>whnf);refine cQ [] hf ?_;(conv=>whnf);exact eQ [] (by exact ⟨rfl,rfl⟩)
   · (conv=>whnf);exact eQ [] (by exact ⟨rfl,rfl⟩)
end Sh
end Go.Proofs.YtomdfaelgcefdaaGreatDoor
namespace Go.Proofs
open Go.RowKit Go.Shelf
attribute [local go_sem] Oper.semAt_some
structure HpW (bc bi oi ci ba oa ca N : Nat) (idv : Nat → Int) (sup : Nat → Option Nat) (w : World) : Prop where
 c1 : w.cell? ⟨bc,1,none⟩ = some (.slice (some ⟨bi,oi,none⟩) N ci)
 c2 : w.cell? ⟨bc,2,none⟩ = some (.slice (some ⟨ba,oa,none⟩) N ca)
 ids : ∀ i,i < N → w.cell? ⟨bi,oi + i,none⟩ = some (.int .i64 (idv i))
 sups : ∀ i,i < N → ∃ A len cap,w.cell? ⟨ba,oa + (i * 6 + 1),none⟩ = some (.slice A len cap) ∧ len ≤ cap ∧ cap ≤ maxLen ∧
  ((len = 0 ∧ sup i = none) ∨ (∃ b o m,A = some ⟨b,o,none⟩ ∧ 0 < len ∧ sup i = some m ∧ m < N ∧ w.cell? ⟨b,o,none⟩ = some (.int .i64 (m : Int))))
def upL (idv : Nat → Int) (sup : Nat → Option Nat) (q : Int) : Nat → Nat → Bool
 | 0,_ => false
 | f + 1,n => if idv n = q then true else match sup n with
  | none => false
  | some m => upL idv sup q f m
theorem Tryz.above1 (bc bi oi ci ba oa ca N : Nat) (idv : Nat → Int) (sup : Nat → Option Nat) (q : Int) (Bc Bn l n0 : Nat) (hN : N ≤ 1099511627776) (_hca : N ≤ ca ∧ ca ≤ maxLen)
    (J : Nat → World → Prop) (Jx : World → Prop) (hJ : ∀ n W,J n W → HpW bc bi oi ci ba oa ca N idv sup W ∧ W.cell? ⟨Bc,0,none⟩ = some (.pointer (some ⟨bc,0,none⟩)) ∧ W.cell? ⟨Bn,0,none⟩ = some (.int .i64 (n : Int)) ∧ W.frozen? ⟨Bn,0,none⟩ = false)
    (hS : ∀ n m W,m < N → J n W → J m (W.setCell ⟨Bn,0,none⟩ (.int .i64 (m : Int)))) (hD : ∀ n W,J n W → J n W.drew)
    (hY : ∀ n W,n < N → J n W → YieldAt Fence.wide (n0 - 1) Tryz.prog l #[.int .i64 (n : Int)] W fun e W' => (idv n ≠ q ∧ e = .returned (.bool true) ∧ J n W') ∨ (idv n = q ∧ e = .returned (.bool false) ∧ Jx W'))
    (a : Nat) (ha : a < N) (W : World) (h0 : J a W) :
    CallsIn Fence.wide n0 Tryz.prog 230 #[.func (.yield l) #[] #[],.pointer (some ⟨Bc,0,none⟩),.pointer (some ⟨Bn,0,none⟩)] W fun e W' => (∃ v,e = .returned v) ∧
     ((upL idv sup q (N + 1) a = false ∧ ∃ n,J n W') ∨ (upL idv sup q (N + 1) a = true ∧ Jx W')) := by
 obtain ⟨⟨c1,c2,ids,sups⟩,hc,hn,hf⟩ := hJ a W h0;refine callsIn_of_wp Tryz.func230 rfl trivial ?_ rfl;simp only [Tryz.ntmps230,List.size_toArray,List.length_cons,List.length_nil,Nat.reduceAdd,Nat.reduceSub,Array.replicate_succ,Array.replicate_zero,List.push_toArray,List.append_toArray,List.nil_append,List.cons_append]
 gi_wp2
 gi_loopw [11] (fun p wr => ∃ i n : Nat,p = .int .i64 (i : Int) ∧ i ≤ N + 1 ∧ n < N ∧ upL idv sup q (N + 1) a = upL idv sup q (N + 1 - i) n ∧ J n wr)
  (fun p _ => match p with | .int _ i => N + 1 - i.toNat | _ => 0)
 case atStart =>
  exact ⟨0,a,rfl,by omega,ha,rfl,h0⟩
 case round =>
  obtain ⟨i,n,rfl,hi,hnN,hr,hJn⟩ := hrel;obtain ⟨⟨d1,d2,ids',sups'⟩,hc',hn',hf'⟩ := hJ n wr hJn
  by_cases hlt : i = N + 1
  · subst hlt
    gi_wp2
    go_end0
    refine ⟨⟨_,rfl⟩,.inl ⟨?_,n,hJn⟩⟩;rw [hr,Nat.sub_self];rfl
  · have hlt2 : (i : Int) < (N : Int) + 1 := by omega
    obtain ⟨fn,tmps,assign,body,hy,hR⟩ := hY n wr hnN hJn
    gi_wp2
    refine ⟨fun h => by simp [Fence.wide] at h,hR.mono ?_⟩;obtain ⟨f,hf⟩ : ∃ f,N + 1 - i = f + 1 := ⟨N - i,by omega⟩;rw [hf] at hr;rintro e W3 (⟨hne,rfl,hJ3⟩ | ⟨he,rfl,hJx3⟩)
    · obtain ⟨⟨e1,e2,ids3,sups3⟩,hc3,hn3,hf3⟩ := hJ n W3 hJ3;obtain ⟨A,len,cap,hs,hlc,hcm,hcase⟩ := sups3 n hnN;have hs' : W3.cell? ⟨ba,oa + n * 6 + 1,none⟩ = some (.slice A len cap) := by rw [Nat.add_assoc]; exact hs
      have hnN' : (n : Int) < (N : Int) := by omega
      have hJ4 := hD n W3 hJ3
      rcases hcase with ⟨rfl,hsn⟩ | ⟨b,o,m,rfl,hlen,hsm,hmN,hcm0⟩
      · gi_wp2
        gi_region
        all_goals gi_wp2
        refine bodyPost_ret (results_none rfl _ _ _) rfl ?_;refine ⟨⟨_,rfl⟩,.inl ⟨?_,n,hJ4⟩⟩;rw [hr];simp only [upL,if_neg hne,hsn]
      · gi_wp2
        gi_region
        all_goals gi_wp2
        refine ⟨⟨i + 1,m,by simp,by omega,hmN,?_,?_⟩,?_⟩
        · rw [hr,show N + 1 - (i + 1) = f by omega];simp only [upL,if_neg hne,hsm]
        · have := hS n m W3.drew hmN hJ4;exact this
        · show N + 1 - ((i : Int) + 1).toNat < N + 1 - (i : Int).toNat;omega
    · gi_wp2
      refine bodyPost_ret (results_none rfl _ _ _) rfl ?_;refine ⟨⟨_,rfl⟩,.inr ⟨?_,hJx3⟩⟩;rw [hr];simp only [upL,if_pos he]
end Go.Proofs
