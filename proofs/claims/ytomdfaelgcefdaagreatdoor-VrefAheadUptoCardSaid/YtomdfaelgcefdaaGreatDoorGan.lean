/- AddP. -/
import Derived.Test.YtomdfaelgcefdaaGreatDoorGam
set_option maxRecDepth 100000
set_option maxHeartbeats 64000000
namespace Go.Proofs.YtomdfaelgcefdaaGreatDoor
open Go
namespace Sh
theorem addG_ok {most : Int} {s s' : CS} {m : Nat} {ids ids' : List Int} {g : El_grp} (h : okCS s m) (hm : m ≤ 2199023255552) (hi : okIds ids 4398046511104) (hg : good_grp 1048576 g) (e : addG most s ids g = some (s',ids')) :
    okCS s' (m + 1048576) ∧ okIds ids' 4398046511104 ∧ ids'.length ≤ ids.length + 1048576 := by
 have ho := (ownG_ok hi (by omega) hg).1;unfold addG at e;split at e
 · rename_i v hv;simp only [Option.some.injEq,Prod.mk.injEq] at e;obtain ⟨rfl,rfl⟩ := e;obtain ⟨p,hp,rfl⟩ := look_mem hv;have h1 := h.es p hp
   have hf := h.fams (s.fams.getD p.2.toNat (S.zero .fam)) (by
    have : p.2.toNat < s.fams.length := by omega
    simp [List.getD,List.getElem?_eq_getElem this])
   refine ⟨⟨h.es,fun f hf => ?_,by have := h.many; omega,by have := h.len; omega⟩,fun x hx => ?_,?_⟩
   · have := h.fams f hf; omega
   · rcases List.mem_append.1 hx with hx | hx
     · exact hi x hx
     · have := numsF_mem hx; omega
   · rw [List.length_append,numsF_len]; omega
 · split at e
   · cases e
   · simp only [Option.some.injEq,Prod.mk.injEq] at e;obtain ⟨rfl,rfl⟩ := e;have hmany := h.many;have hlen := h.len;refine ⟨⟨fun p hp => ?_,fun f hf => ?_,by simp only; omega,by simp only [List.length_append,List.length_singleton]; omega⟩,fun x hx => ?_,?_⟩
     · simp only [List.length_append,List.length_singleton]
       rcases List.mem_append.1 hp with hp | hp
       · have := h.es p hp; omega
       · simp only [List.mem_singleton] at hp; subst hp; simp only; omega
     · rcases List.mem_append.1 hf with hf | hf
       · have := h.fams f hf; omega
       · simp only [List.mem_singleton] at hf; subst hf; simp only; omega
     · rcases List.mem_append.1 hx with hx | hx
       · exact hi x hx
       · have := numsF_mem hx; omega
     · rw [List.length_append,numsF_len]; omega
theorem fits_big {k : KT} {n : Nat} (hn : n ≤ 2199023255552) (hb : S.bytes k ≤ 64) : fits S k n := by
 refine ⟨by unfold maxLen; omega,?_⟩;have : n * S.bytes k ≤ 2199023255552 * 64 := Nat.mul_le_mul hn hb;omega
def adH (tl : List V) (s : CS) (ids : List Int) : Heap KT ElT := [.cells (.own .fam 2 0 s.fams.length .whole :: .mp 1 :: .int .i64 s.many :: tl),.map (esV s.es),.row .fam s.fams,.row .int ids]
def adE (tl : List V) (s : CS) : Heap KT ElT := [.cells (.own .fam 2 0 s.fams.length .whole :: .mp 1 :: .int .i64 s.many :: tl),.map (esV s.es),.row .fam s.fams]
def adB (tl : List V) (s : CS) (ids : List Int) : Heap KT ElT := [.cells (.own .fam 3 0 s.fams.length .whole :: .mp 1 :: .int .i64 s.many :: tl),.map (esV s.es),.gone,.row .fam s.fams,.row .int ids]
def adR (x : CS × List Int × Int) : V := if x.2.2 = -1 then .tup [.own .int 3 0 x.2.1.length .whole,.int .i64 (-1)] else .tup [.nils,.int .i64 x.2.2]
def adHR (tl : List V) (x : CS × List Int × Int) : Heap KT ElT := if x.2.2 = -1 then adH tl x.1 x.2.1 else adE tl x.1
def adV (ii : Nat) (most : Int) (l : List El_grp) (n : Nat) (j : Int) : List V := [.ptr 0 0,.int .i64 most,.own .int ii 0 n .whole,.imm .grp l,.int .i64 l.length,.int .i64 j]
def adV2 (ii b : Nat) (most : Int) (l : List El_grp) (n : Nat) (j : Int) (t : List El_sub) (i : Nat) (i' : Int) : List V := [.ptr 0 0,.int .i64 most,.own .int ii 0 n .whole,.int .i64 j,.clo 255 [some (b + 1)],.own .sub (b + 2) 0 i .whole,.imm .grp l,.int .i64 l.length,.int .i64 j,.imm .sub t,.int .i64 t.length,.int .i64 i']
def adV4 (ii : Nat) (most : Int) (l : List El_grp) (n : Nat) (j : Int) (own : List El_sub) : List V := [.ptr 0 0,.int .i64 most,.own .int ii 0 n .whole,.int .i64 j,.imm .sub own,.imm .grp l,.int .i64 l.length,.int .i64 j]
def adV3 (ii : Nat) (most : Int) (l : List El_grp) (n : Nat) (at' : Int) (j : Int) (w : Nat) (i' : Int) : List V := [.ptr 0 0,.int .i64 most,.own .int ii 0 n .whole,.int .i64 at',.imm .grp l,.int .i64 l.length,.int .i64 j,.int .i64 w,.int .i64 i']
theorem c_addN0 (most : Int) (l : List El_grp) (hl : l.length ≤ 1048576) (hg : ∀ g ∈ l,good_grp 1048576 g) :
    SpecD S 228 [.ptr 0 0,.imm .grp l,.int .i64 most] [.cells (.nils :: .mp 1 :: .int .i64 0 :: []),.map []] (adR (addL most ⟨[],[],0⟩ [] 0 l)) (adHR [] (addL most ⟨[],[],0⟩ [] 0 l)) := by
 refine specE ok sh228 rfl ?_;conv=>whnf
 refine loop_of [.slot 8 .int,.cell 0 0 .fam] [0,1,3,2] (fun vs H => ∃ (j n : Nat) (s : CS) (ids : List Int),j ≤ l.length ∧ n = ids.length ∧ n ≤ j * 1048576 ∧ okCS s (j * 1048576) ∧ okIds ids 4398046511104 ∧ addL most ⟨[],[],0⟩ [] 0 l = addL most s ids j (l.drop j) ∧ vs = adV 3 most l n j ∧ H = adH [] s ids)
  (fun vs _ => match vs with | [_,_,_,_,_,.int _ j] => l.length - j.toNat | _ => 0) (by rfl) (by rfl) (by rfl) (by rfl) ⟨0,0,⟨[],[],0⟩,[],Nat.zero_le _,rfl,Nat.zero_le _,⟨fun p h => by simp at h,fun p h => by simp at h,Nat.zero_le _,Nat.zero_le _⟩,fun x h => by simp at h,rfl,rfl,rfl⟩ ?_
 rintro vs H1 ⟨j,n,s,ids,hj,hn,hnl,hs,hi,hF,rfl,rfl⟩;(conv=>whnf);cases hd : decide ((j : Int) < l.length)
 · (conv=>whnf);have := of_decide_eq_false hd;obtain rfl : j = l.length := by omega
   rw [List.drop_length] at hF;refine eQ [0,1,2,3] ⟨?_,?_⟩
   · rw [hF,hn]; rfl
   · rw [hF]; rfl
 (conv=>whnf);have hjl := of_decide_eq_true hd;have hw : IntKind.i64.wrap ((j : Int) + 1) = ((j + 1 : Nat) : Int) := wrap_i64 (by omega) (by omega);refine ⟨rfl,by omega,by omega,?_⟩;(conv=>whnf);refine ⟨by omega,(by decide : 0 + 2 ≤ 2),?_⟩;rw [show l.getD (Int.toNat (j : Int)) (S.zero .grp) = l.getD j (S.zero .grp) by rw [Int.toNat_natCast]];have hx := getD_at (show j < l.length by omega) (S.zero .grp);have hgx := hg _ (List.mem_of_getElem? hx);rw [addL_cons hx] at hF;generalize l.getD j (S.zero .grp) = g at hx hgx hF;have hgg := hgx;have hO := ownG_ok hi (by omega) hgx;have hKl := keyG_len hi (by omega) hgx;obtain ⟨ty,ex⟩ := g;obtain ⟨t,ht0,htl,htg⟩ := hgx;simp only at ht0;subst ht0;have hmany := hs.many;have hflen := hs.len;(conv=>whnf);refine cQ [3] (c_rolled n ids) ?_;conv=>whnf
 refine loop_of [.slot 12 .sub] [0,1,2,3,4,5,6] (fun vs H => ∃ i : Nat,i ≤ t.length ∧ vs = adV2 3 4 most l n j t i i ∧ H = [.cells [.own .fam 2 0 s.fams.length .whole,.mp 1,.int .i64 s.many],.map (esV s.es),.row .fam s.fams,.row .int ids,.cells [.imm .sub t,.bool ex],idC 3 n,.row .sub ((t.take i).map (mapS ids))])
  (fun vs _ => match vs with | [_,_,_,_,_,_,_,_,_,_,_,.int _ j] => t.length - j.toNat | _ => 0) (by rfl) (by rfl) (by rfl) (by rfl) ⟨0,Nat.zero_le _,rfl,rfl⟩ ?_
 rintro vs H1 ⟨i,hil,rfl,rfl⟩;(conv=>whnf);cases hd2 : decide ((i : Int) < t.length)
 rotate_left
 · (conv=>whnf);have hi2 := of_decide_eq_true hd2;have hwi : IntKind.i64.wrap ((i : Int) + 1) = ((i + 1 : Nat) : Int) := wrap_i64 (by omega) (by omega);refine ⟨rfl,by omega,by omega,?_⟩;(conv=>whnf);refine ⟨by omega,(by decide : 0 + 6 ≤ 6),?_⟩;rw [show t.getD (Int.toNat (i : Int)) (S.zero .sub) = t.getD i (S.zero .sub) by rw [Int.toNat_natCast]];have hy := getD_at (show i < t.length by omega) (S.zero .sub);have hgy := htg _ (List.mem_of_getElem? hy);have hm := map_take (mapS ids) hy;generalize t.getD i (S.zero .sub) = z at hy hgy hm;have hc := c_map n ids hn z hgy;have hxl : ((t.take i).map (mapS ids)).length = i := by simp; omega
   generalize (t.take i).map (mapS ids) = xs at hm hxl;obtain ⟨fi,sa,sk,sp,sr,sf⟩ := z;obtain ⟨⟨qa,ha0,_,_⟩,_,⟨qp,hp0,_,_⟩,⟨qr,hr0,_,_⟩,⟨qf,hf0,_,_⟩⟩ := hgy;simp only at ha0 hp0 hr0 hf0;subst ha0 hp0 hr0 hf0;(conv=>whnf);refine cQ [5,3] hc ?_;(conv=>whnf);refine ⟨rfl,by simp,?_⟩;(conv=>whnf);refine ⟨rfl,by show 0 + i ≤ xs.length; omega,fits_of (by show i + 1 ≤ _; omega) (by decide),rfl,?_⟩;(conv=>whnf);refine ⟨[0,1,2,3,4,5,9],[],relo_of [0,1,2,3,4,5,9] (by rfl) (by rfl),?_⟩;refine ⟨⟨i + 1,by omega,congrArg (adV2 3 4 most l n j t (i + 1)) hwi,?_⟩,?_⟩
   · rw [hm];have e : xs.take i = xs := by rw [← hxl,List.take_length]
     conv => rhs; rw [← e]
     rfl
   · show t.length - (IntKind.i64.wrap ((i : Int) + 1)).toNat < t.length - (i : Int).toNat;rw [hwi]; omega
 have := of_decide_eq_false hd2;obtain rfl : i = t.length := by omega
 clear hd2 hil;rw [List.take_length];have hol : (t.map (mapS ids)).length = t.length := by simp
 change (ownG ids ⟨some t,ex⟩).length ≤ _ ∧ _ at hO
 have hk := c_key (t.map (mapS ids)) hO.1 hO.2 hKl;have hAe : ∀ {o : Option (CS × List Int)},addG most s ids ⟨some t,ex⟩ = o → addG most s ids ⟨some t,ex⟩ = o := id;unfold addG at hAe
 change ∀ {o : Option (CS × List Int)},(match lookE (keyB (t.map (mapS ids))) s.es with
  | some v => some (s,ids ++ numsF (s.fams.getD v.toNat (S.zero .fam)).first (t.map (mapS ids)).length)
  | none => if most < (s.many : Int) + (t.map (mapS ids)).length then none else some (⟨s.fams ++ [⟨s.many,some (t.map (mapS ids))⟩],s.es ++ [(keyB (t.map (mapS ids)),(s.fams.length : Int))],s.many + (t.map (mapS ids)).length⟩,ids ++ numsF s.many (t.map (mapS ids)).length)) = o → _ at hAe
 change addL _ _ _ _ _ = (match addG most s ids ⟨some t,ex⟩ with | some (s',ids') => addL most s' ids' (j + 1) (l.drop (j + 1)) | none => (s,[],(j : Int))) at hF
 generalize hown : t.map (mapS ids) = own at hk hAe hol;clear hO hKl;(conv=>whnf);refine frz_of [0,1,2,3] [6] (by rfl) (by rfl) ⟨⟨trivial,trivial,trivial,trivial⟩,trivial,trivial,trivial,trivial⟩ ⟨trivial,trivial,trivial,trivial,⟨rfl,by show 0 + t.length ≤ own.length; omega⟩,trivial,trivial,trivial,trivial⟩ (vs := adV4 3 most l n j own) (H1 := [.cells [.own .fam 2 0 s.fams.length .whole,.mp 1,.int .i64 s.many],.map (esV s.es),.row .fam s.fams,.row .int ids]) ?_ (by rfl) ?_
 · show ([.ptr 0 0,.int .i64 most,.own .int 3 0 n .whole,.int .i64 j,.imm .sub ((own.drop 0).take t.length),.imm .grp l,.int .i64 l.length,.int .i64 j] : List V) = _;rw [← hol,List.drop_zero,List.take_length];rfl
 (conv=>whnf);refine cQ [] hk ?_;conv=>whnf
 rcases mfind_esV (keyB own) s.es 0 with ⟨h1,h2⟩ | ⟨v,q,h1,h2⟩
 rotate_left
 · refine look_some h2 ?_;(conv=>whnf);have hA : addG most s ids ⟨some t,ex⟩ = some (s,ids ++ numsF (s.fams.getD v.toNat (S.zero .fam)).first own.length) := hAe (by rw [h1]);have hok := addG_ok hs (by omega) hi hgg hA;have hsv := hok.1.es;rw [hA] at hF
   have hv0 : 0 ≤ (v : Int) ∧ (v : Int) < s.fams.length := by
    obtain ⟨p,hp,rfl⟩ := look_mem h1;exact hsv p hp
   have hfs : 0 ≤ (s.fams.getD (v : Int).toNat (S.zero .fam)).first ∧ (s.fams.getD (v : Int).toNat (S.zero .fam)).first ≤ ((j * 1048576 + 1048576 : Nat) : Int) := hok.1.fams _ (show s.fams.getD (v : Int).toNat (S.zero .fam) ∈ s.fams by
    have : (v : Int).toNat < s.fams.length := by omega
    simp [List.getD,List.getElem?_eq_getElem this])
   refine loop_of [] [0,1,2,3] (fun vs H => ∃ (i m : Nat) (ys : List Int),i ≤ own.length ∧ m = n + i ∧ m = ys.length ∧ ys = ids ++ numsF (s.fams.getD (v : Int).toNat (S.zero .fam)).first i ∧ vs = adV3 3 most l m v j own.length i ∧ H = [.cells [.own .fam 2 0 s.fams.length .whole,.mp 1,.int .i64 s.many],.map (esV s.es),.row .fam s.fams,.row .int ys])
    (fun vs _ => match vs with | [_,_,_,_,_,_,_,_,.int _ j] => own.length - j.toNat | _ => 0) (by rfl) (by rfl) (by rfl) (by rfl) ⟨0,n,ids,Nat.zero_le _,rfl,hn,by simp [numsF],rfl,rfl⟩ ?_
   rintro vs H1 ⟨i,m,ys,hi3,hm,hmy,hys,rfl,rfl⟩;(conv=>whnf);cases hd3 : decide ((i : Int) < own.length)
   · (conv=>whnf);have := of_decide_eq_false hd3;obtain rfl : i = own.length := by omega
     refine ⟨[0,1,2,3],[],relo_of [0,1,2,3] (by rfl) (by rfl),?_⟩;refine ⟨⟨j + 1,m,s,ys,by omega,hmy,?_,?_,?_,?_,congrArg (adV 3 most l m) hw,rfl⟩,?_⟩
     · omega
     · have := hok.1;rw [show j * 1048576 + 1048576 = (j + 1) * 1048576 by omega] at this;exact this
     · rw [hys]; exact hok.2.1
     · rw [hys]; exact hF
     · show l.length - (IntKind.i64.wrap ((j : Int) + 1)).toNat < l.length - (j : Int).toNat;rw [hw]; omega
   · (conv=>whnf);have hi4 := of_decide_eq_true hd3;have hwi : IntKind.i64.wrap ((i : Int) + 1) = ((i + 1 : Nat) : Int) := wrap_i64 (by omega) (by omega);refine ⟨rfl,by omega,by show (v : Int) < (s.fams.length : Int); omega,?_⟩;(conv=>whnf);refine ⟨rfl,by omega,(by decide : 0 + 1 ≤ 2),?_⟩;rw [show s.fams.getD (0 + Int.toNat (v : Int)) (S.zero .fam) = s.fams.getD (Int.toNat (v : Int)) (S.zero .fam) by rw [Nat.zero_add]];generalize s.fams.getD (Int.toNat (v : Int)) (S.zero .fam) = fm at hfs hys hF;obtain ⟨fa,ft⟩ := fm;simp only at hfs hys;have hwf : IntKind.i64.wrap (fa + (i : Int)) = fa + i := wrap_i64 (by omega) (by omega);have hye : ids ++ numsF fa (i + 1) = ys ++ [fa + (i : Int)] := by rw [numsF_succ,hys,List.append_assoc]
     clear hys;(conv=>whnf);refine ⟨rfl,by simp,?_⟩;(conv=>whnf);refine ⟨rfl,by show 0 + m ≤ ys.length; omega,fits_big (by show m + 1 ≤ _; omega) (by decide),rfl,?_⟩;rw [hwf];(conv=>whnf);refine ⟨[0,1,2,5],[],relo_of [0,1,2,5] (by rfl) (by rfl),?_⟩;refine ⟨⟨i + 1,m + 1,ys ++ [fa + (i : Int)],by omega,by omega,by simp [hmy],?_,congrArg (adV3 3 most l (m + 1) v j own.length) hwi,?_⟩,?_⟩
     · rw [hye]
     · have e : ys.take m = ys := by rw [hmy,List.take_length]
       conv => rhs; rw [← e]
       rfl
     · show own.length - (IntKind.i64.wrap ((i : Int) + 1)).toNat < own.length - (i : Int).toNat;rw [hwi]; omega
 · refine look_none h2 ?_;have hwm : IntKind.i64.wrap ((s.many : Int) + own.length) = ((s.many + own.length : Nat) : Int) := wrap_i64 (by omega) (by omega);rw [h1] at hAe;(conv=>whnf);rw [hwm];cases hcm : decide (most < ((s.many + own.length : Nat) : Int))
   rotate_left
   · (conv=>whnf);have hA : addG most s ids ⟨some t,ex⟩ = none := hAe (if_pos (by have := of_decide_eq_true hcm; omega));rw [hA] at hF;refine eQ [0,1,2] ⟨?_,?_⟩
     · rw [hF];show _ = adR (s,[],(j : Int));unfold adR;rw [if_neg (by simp only; omega)];rfl
     · rw [hF];show _ = adHR [] (s,[],(j : Int));unfold adHR;rw [if_neg (by simp only; omega)];rfl
   · (conv=>whnf);have hA : addG most s ids ⟨some t,ex⟩ = some (⟨s.fams ++ [⟨s.many,some own⟩],s.es ++ [(keyB own,(s.fams.length : Int))],s.many + own.length⟩,ids ++ numsF s.many own.length) := hAe (if_neg (by have := of_decide_eq_false hcm; omega));refine put_none h2 ?_;(conv=>whnf);refine tQ ?_;(conv=>whnf);refine ⟨rfl,by simp,?_⟩;(conv=>whnf);refine ⟨rfl,by show 0 + s.fams.length ≤ s.fams.length; omega,fits_big (by show s.fams.length + 1 ≤ _; omega) (by decide),rfl,?_⟩;(conv=>whnf);refine tQ ?_;(conv=>whnf);rw [hwm];have hfr : ((s.fams ++ [(⟨s.many,some own⟩ : El_fam)] : List El_fam).getD (s.fams.length : Int).toNat (S.zero .fam)).first = s.many := by simp
     have hA : addG most s ids ⟨some t,ex⟩ = some (⟨s.fams ++ [⟨s.many,some own⟩],s.es ++ [(keyB own,(s.fams.length : Int))],s.many + own.length⟩,ids ++ numsF ((s.fams ++ [(⟨s.many,some own⟩ : El_fam)] : List El_fam).getD (s.fams.length : Int).toNat (S.zero .fam)).first own.length) := by rw [hfr]; exact hA
     have hok := addG_ok hs (by omega) hi hgg hA;rw [hA] at hF
     have hv0 : 0 ≤ ((s.fams.length : Int) : Int) ∧ ((s.fams.length : Int) : Int) < (s.fams ++ [(⟨s.many,some own⟩ : El_fam)] : List El_fam).length := by
      exact ⟨by omega,by simp only [List.length_append,List.length_singleton]; omega⟩
     have hfs : 0 ≤ ((s.fams ++ [(⟨s.many,some own⟩ : El_fam)] : List El_fam).getD ((s.fams.length : Int) : Int).toNat (S.zero .fam)).first ∧ ((s.fams ++ [(⟨s.many,some own⟩ : El_fam)] : List El_fam).getD ((s.fams.length : Int) : Int).toNat (S.zero .fam)).first ≤ ((j * 1048576 + 1048576 : Nat) : Int) := hok.1.fams _ (show (s.fams ++ [(⟨s.many,some own⟩ : El_fam)] : List El_fam).getD ((s.fams.length : Int) : Int).toNat (S.zero .fam) ∈ (s.fams ++ [(⟨s.many,some own⟩ : El_fam)] : List El_fam) by
      have : ((s.fams.length : Int) : Int).toNat < (s.fams ++ [(⟨s.many,some own⟩ : El_fam)] : List El_fam).length := by omega
      simp [List.getD])
     refine loop_of [] [0,1,5,3] (fun vs H => ∃ (i m : Nat) (ys : List Int),i ≤ own.length ∧ m = n + i ∧ m = ys.length ∧ ys = ids ++ numsF ((s.fams ++ [(⟨s.many,some own⟩ : El_fam)] : List El_fam).getD ((s.fams.length : Int) : Int).toNat (S.zero .fam)).first i ∧ vs = adV3 3 most l m (s.fams.length : Int) j own.length i ∧ H = [.cells [.own .fam 2 0 (s.fams ++ [(⟨s.many,some own⟩ : El_fam)] : List El_fam).length .whole,.mp 1,.int .i64 (s.many + own.length : Nat)],.map (esV (s.es ++ [(keyB own,(s.fams.length : Int))])),.row .fam (s.fams ++ [(⟨s.many,some own⟩ : El_fam)] : List El_fam),.row .int ys])
      (fun vs _ => match vs with | [_,_,_,_,_,_,_,_,.int _ j] => own.length - j.toNat | _ => 0) (by rfl) (by rfl) (by rfl) (by rfl) ⟨0,n,ids,Nat.zero_le _,rfl,hn,by simp [numsF],rfl,by
       show ([.cells [.own .fam 2 0 (s.fams.length + 1) .whole,.mp 1,.int .i64 ((s.many + own.length : Nat) : Int)],.map (esV s.es ++ [(.str (keyB own),.int .i64 (s.fams.length : Int))]),.row .fam (s.fams.take s.fams.length ++ [⟨s.many,some own⟩]),.row .int ids] : Heap KT ElT) = _
       simp [esV]⟩ ?_
     rintro vs H1 ⟨i,m,ys,hi3,hm,hmy,hys,rfl,rfl⟩;(conv=>whnf);cases hd3 : decide ((i : Int) < own.length)
     · (conv=>whnf);have := of_decide_eq_false hd3;obtain rfl : i = own.length := by omega
       refine ⟨[0,1,2,3],[],relo_of [0,1,2,3] (by rfl) (by rfl),?_⟩;refine ⟨⟨j + 1,m,(⟨s.fams ++ [⟨s.many,some own⟩],s.es ++ [(keyB own,(s.fams.length : Int))],s.many + own.length⟩ : CS),ys,by omega,hmy,?_,?_,?_,?_,congrArg (adV 3 most l m) hw,rfl⟩,?_⟩
       · omega
       · have := hok.1;rw [show j * 1048576 + 1048576 = (j + 1) * 1048576 by omega] at this;exact this
       · rw [hys]; exact hok.2.1
       · rw [hys]; exact hF
       · show l.length - (IntKind.i64.wrap ((j : Int) + 1)).toNat < l.length - (j : Int).toNat;rw [hw]; omega
     · (conv=>whnf);have hi4 := of_decide_eq_true hd3;have hwi : IntKind.i64.wrap ((i : Int) + 1) = ((i + 1 : Nat) : Int) := wrap_i64 (by omega) (by omega);refine ⟨rfl,by omega,by show ((s.fams.length : Int) : Int) < ((s.fams ++ [(⟨s.many,some own⟩ : El_fam)] : List El_fam).length : Int); omega,?_⟩;(conv=>whnf);refine ⟨rfl,by omega,(by decide : 0 + 1 ≤ 2),?_⟩;rw [show (s.fams ++ [(⟨s.many,some own⟩ : El_fam)] : List El_fam).getD (0 + Int.toNat ((s.fams.length : Int) : Int)) (S.zero .fam) = (s.fams ++ [(⟨s.many,some own⟩ : El_fam)] : List El_fam).getD (Int.toNat ((s.fams.length : Int) : Int)) (S.zero .fam) by rw [Nat.zero_add]];generalize (s.fams ++ [(⟨s.many,some own⟩ : El_fam)] : List El_fam).getD (Int.toNat ((s.fams.length : Int) : Int)) (S.zero .fam) = fm at hfs hys hF;obtain ⟨fa,ft⟩ := fm;simp only at hfs hys;have hwf : IntKind.i64.wrap (fa + (i : Int)) = fa + i := wrap_i64 (by omega) (by omega);have hye : ids ++ numsF fa (i + 1) = ys ++ [fa + (i : Int)] := by rw [numsF_succ,hys,List.append_assoc]
       clear hys;(conv=>whnf);refine ⟨rfl,by simp,?_⟩;(conv=>whnf);refine ⟨rfl,by show 0 + m ≤ ys.length; omega,fits_big (by show m + 1 ≤ _; omega) (by decide),rfl,?_⟩;rw [hwf];(conv=>whnf);refine ⟨[0,1,2,5],[],relo_of [0,1,2,5] (by rfl) (by rfl),?_⟩;refine ⟨⟨i + 1,m + 1,ys ++ [fa + (i : Int)],by omega,by omega,by simp [hmy],?_,congrArg (adV3 3 most l (m + 1) (s.fams.length : Int) j own.length) hwi,?_⟩,?_⟩
       · rw [hye]
       · have e : ys.take m = ys := by rw [hmy,List.take_length]
         conv => rhs; rw [← e]
         rfl
       · show own.length - (IntKind.i64.wrap ((i : Int) + 1)).toNat < own.length - (i : Int).toNat;rw [hwi]; omega
theorem c_addN1 (most : Int) (l : List El_grp) (hl : l.length ≤ 1048576) (hg : ∀ g ∈ l,good_grp 1048576 g) :
    SpecD S 228 [.ptr 0 0,.imm .grp l,.int .i64 most] [.cells (.nils :: .mp 1 :: .int .i64 0 :: [.bool true]),.map []] (adR (addL most ⟨[],[],0⟩ [] 0 l)) (adHR [.bool true] (addL most ⟨[],[],0⟩ [] 0 l)) := by
 refine specE ok sh228 rfl ?_;conv=>whnf
 refine loop_of [.slot 8 .int,.cell 0 0 .fam] [0,1,3,2] (fun vs H => ∃ (j n : Nat) (s : CS) (ids : List Int),j ≤ l.length ∧ n = ids.length ∧ n ≤ j * 1048576 ∧ okCS s (j * 1048576) ∧ okIds ids 4398046511104 ∧ addL most ⟨[],[],0⟩ [] 0 l = addL most s ids j (l.drop j) ∧ vs = adV 3 most l n j ∧ H = adH [.bool true] s ids)
  (fun vs _ => match vs with | [_,_,_,_,_,.int _ j] => l.length - j.toNat | _ => 0) (by rfl) (by rfl) (by rfl) (by rfl) ⟨0,0,⟨[],[],0⟩,[],Nat.zero_le _,rfl,Nat.zero_le _,⟨fun p h => by simp at h,fun p h => by simp at h,Nat.zero_le _,Nat.zero_le _⟩,fun x h => by simp at h,rfl,rfl,rfl⟩ ?_
 rintro vs H1 ⟨j,n,s,ids,hj,hn,hnl,hs,hi,hF,rfl,rfl⟩;(conv=>whnf);cases hd : decide ((j : Int) < l.length)
 · (conv=>whnf);have := of_decide_eq_false hd;obtain rfl : j = l.length := by omega
   rw [List.drop_length] at hF;refine eQ [0,1,2,3] ⟨?_,?_⟩
   · rw [hF,hn]; rfl
   · rw [hF]; rfl
 (conv=>whnf);have hjl := of_decide_eq_true hd;have hw : IntKind.i64.wrap ((j : Int) + 1) = ((j + 1 : Nat) : Int) := wrap_i64 (by omega) (by omega);refine ⟨rfl,by omega,by omega,?_⟩;(conv=>whnf);refine ⟨by omega,(by decide : 0 + 2 ≤ 2),?_⟩;rw [show l.getD (Int.toNat (j : Int)) (S.zero .grp) = l.getD j (S.zero .grp) by rw [Int.toNat_natCast]];have hx := getD_at (show j < l.length by omega) (S.zero .grp);have hgx := hg _ (List.mem_of_getElem? hx);rw [addL_cons hx] at hF;generalize l.getD j (S.zero .grp) = g at hx hgx hF;have hgg := hgx;have hO := ownG_ok hi (by omega) hgx;have hKl := keyG_len hi (by omega) hgx;obtain ⟨ty,ex⟩ := g;obtain ⟨t,ht0,htl,htg⟩ := hgx;simp only at ht0;subst ht0;have hmany := hs.many;have hflen := hs.len;(conv=>whnf);refine cQ [3] (c_rolled n ids) ?_;conv=>whnf
 refine loop_of [.slot 12 .sub] [0,1,2,3,4,5,6] (fun vs H => ∃ i : Nat,i ≤ t.length ∧ vs = adV2 3 4 most l n j t i i ∧ H = [.cells [.own .fam 2 0 s.fams.length .whole,.mp 1,.int .i64 s.many,.bool true],.map (esV s.es),.row .fam s.fams,.row .int ids,.cells [.imm .sub t,.bool ex],idC 3 n,.row .sub ((t.take i).map (mapS ids))])
  (fun vs _ => match vs with | [_,_,_,_,_,_,_,_,_,_,_,.int _ j] => t.length - j.toNat | _ => 0) (by rfl) (by rfl) (by rfl) (by rfl) ⟨0,Nat.zero_le _,rfl,rfl⟩ ?_
 rintro vs H1 ⟨i,hil,rfl,rfl⟩;(conv=>whnf);cases hd2 : decide ((i : Int) < t.length)
 rotate_left
 · (conv=>whnf);have hi2 := of_decide_eq_true hd2;have hwi : IntKind.i64.wrap ((i : Int) + 1) = ((i + 1 : Nat) : Int) := wrap_i64 (by omega) (by omega);refine ⟨rfl,by omega,by omega,?_⟩;(conv=>whnf);refine ⟨by omega,(by decide : 0 + 6 ≤ 6),?_⟩;rw [show t.getD (Int.toNat (i : Int)) (S.zero .sub) = t.getD i (S.zero .sub) by rw [Int.toNat_natCast]];have hy := getD_at (show i < t.length by omega) (S.zero .sub);have hgy := htg _ (List.mem_of_getElem? hy);have hm := map_take (mapS ids) hy;generalize t.getD i (S.zero .sub) = z at hy hgy hm;have hc := c_map n ids hn z hgy;have hxl : ((t.take i).map (mapS ids)).length = i := by simp; omega
   generalize (t.take i).map (mapS ids) = xs at hm hxl;obtain ⟨fi,sa,sk,sp,sr,sf⟩ := z;obtain ⟨⟨qa,ha0,_,_⟩,_,⟨qp,hp0,_,_⟩,⟨qr,hr0,_,_⟩,⟨qf,hf0,_,_⟩⟩ := hgy;simp only at ha0 hp0 hr0 hf0;subst ha0 hp0 hr0 hf0;(conv=>whnf);refine cQ [5,3] hc ?_;(conv=>whnf);refine ⟨rfl,by simp,?_⟩;(conv=>whnf);refine ⟨rfl,by show 0 + i ≤ xs.length; omega,fits_of (by show i + 1 ≤ _; omega) (by decide),rfl,?_⟩;(conv=>whnf);refine ⟨[0,1,2,3,4,5,9],[],relo_of [0,1,2,3,4,5,9] (by rfl) (by rfl),?_⟩;refine ⟨⟨i + 1,by omega,congrArg (adV2 3 4 most l n j t (i + 1)) hwi,?_⟩,?_⟩
   · rw [hm];have e : xs.take i = xs := by rw [← hxl,List.take_length]
     conv => rhs; rw [← e]
     rfl
   · show t.length - (IntKind.i64.wrap ((i : Int) + 1)).toNat < t.length - (i : Int).toNat;rw [hwi]; omega
 have := of_decide_eq_false hd2;obtain rfl : i = t.length := by omega
 clear hd2 hil;rw [List.take_length];have hol : (t.map (mapS ids)).length = t.length := by simp
 change (ownG ids ⟨some t,ex⟩).length ≤ _ ∧ _ at hO
 have hk := c_key (t.map (mapS ids)) hO.1 hO.2 hKl;have hAe : ∀ {o : Option (CS × List Int)},addG most s ids ⟨some t,ex⟩ = o → addG most s ids ⟨some t,ex⟩ = o := id;unfold addG at hAe
 change ∀ {o : Option (CS × List Int)},(match lookE (keyB (t.map (mapS ids))) s.es with
  | some v => some (s,ids ++ numsF (s.fams.getD v.toNat (S.zero .fam)).first (t.map (mapS ids)).length)
  | none => if most < (s.many : Int) + (t.map (mapS ids)).length then none else some (⟨s.fams ++ [⟨s.many,some (t.map (mapS ids))⟩],s.es ++ [(keyB (t.map (mapS ids)),(s.fams.length : Int))],s.many + (t.map (mapS ids)).length⟩,ids ++ numsF s.many (t.map (mapS ids)).length)) = o → _ at hAe
 change addL _ _ _ _ _ = (match addG most s ids ⟨some t,ex⟩ with | some (s',ids') => addL most s' ids' (j + 1) (l.drop (j + 1)) | none => (s,[],(j : Int))) at hF
 generalize hown : t.map (mapS ids) = own at hk hAe hol;clear hO hKl;(conv=>whnf);refine frz_of [0,1,2,3] [6] (by rfl) (by rfl) ⟨⟨trivial,trivial,trivial,trivial,trivial⟩,trivial,trivial,trivial,trivial⟩ ⟨trivial,trivial,trivial,trivial,⟨rfl,by show 0 + t.length ≤ own.length; omega⟩,trivial,trivial,trivial,trivial⟩ (vs := adV4 3 most l n j own) (H1 := [.cells [.own .fam 2 0 s.fams.length .whole,.mp 1,.int .i64 s.many,.bool true],.map (esV s.es),.row .fam s.fams,.row .int ids]) ?_ (by rfl) ?_
 · show ([.ptr 0 0,.int .i64 most,.own .int 3 0 n .whole,.int .i64 j,.imm .sub ((own.drop 0).take t.length),.imm .grp l,.int .i64 l.length,.int .i64 j] : List V) = _;rw [← hol,List.drop_zero,List.take_length];rfl
 (conv=>whnf);refine cQ [] hk ?_;conv=>whnf
 rcases mfind_esV (keyB own) s.es 0 with ⟨h1,h2⟩ | ⟨v,q,h1,h2⟩
 rotate_left
 · refine look_some h2 ?_;(conv=>whnf);have hA : addG most s ids ⟨some t,ex⟩ = some (s,ids ++ numsF (s.fams.getD v.toNat (S.zero .fam)).first own.length) := hAe (by rw [h1]);have hok := addG_ok hs (by omega) hi hgg hA;have hsv := hok.1.es;rw [hA] at hF
   have hv0 : 0 ≤ (v : Int) ∧ (v : Int) < s.fams.length := by
    obtain ⟨p,hp,rfl⟩ := look_mem h1;exact hsv p hp
   have hfs : 0 ≤ (s.fams.getD (v : Int).toNat (S.zero .fam)).first ∧ (s.fams.getD (v : Int).toNat (S.zero .fam)).first ≤ ((j * 1048576 + 1048576 : Nat) : Int) := hok.1.fams _ (show s.fams.getD (v : Int).toNat (S.zero .fam) ∈ s.fams by
    have : (v : Int).toNat < s.fams.length := by omega
    simp [List.getD,List.getElem?_eq_getElem this])
   refine loop_of [] [0,1,2,3] (fun vs H => ∃ (i m : Nat) (ys : List Int),i ≤ own.length ∧ m = n + i ∧ m = ys.length ∧ ys = ids ++ numsF (s.fams.getD (v : Int).toNat (S.zero .fam)).first i ∧ vs = adV3 3 most l m v j own.length i ∧ H = [.cells [.own .fam 2 0 s.fams.length .whole,.mp 1,.int .i64 s.many,.bool true],.map (esV s.es),.row .fam s.fams,.row .int ys])
    (fun vs _ => match vs with | [_,_,_,_,_,_,_,_,.int _ j] => own.length - j.toNat | _ => 0) (by rfl) (by rfl) (by rfl) (by rfl) ⟨0,n,ids,Nat.zero_le _,rfl,hn,by simp [numsF],rfl,rfl⟩ ?_
   rintro vs H1 ⟨i,m,ys,hi3,hm,hmy,hys,rfl,rfl⟩;(conv=>whnf);cases hd3 : decide ((i : Int) < own.length)
   · (conv=>whnf);have := of_decide_eq_false hd3;obtain rfl : i = own.length := by omega
     refine ⟨[0,1,2,3],[],relo_of [0,1,2,3] (by rfl) (by rfl),?_⟩;refine ⟨⟨j + 1,m,s,ys,by omega,hmy,?_,?_,?_,?_,congrArg (adV 3 most l m) hw,rfl⟩,?_⟩
     · omega
     · have := hok.1;rw [show j * 1048576 + 1048576 = (j + 1) * 1048576 by omega] at this;exact this
     · rw [hys]; exact hok.2.1
     · rw [hys]; exact hF
     · show l.length - (IntKind.i64.wrap ((j : Int) + 1)).toNat < l.length - (j : Int).toNat;rw [hw]; omega
   · (conv=>whnf);have hi4 := of_decide_eq_true hd3;have hwi : IntKind.i64.wrap ((i : Int) + 1) = ((i + 1 : Nat) : Int) := wrap_i64 (by omega) (by omega);refine ⟨rfl,by omega,by show (v : Int) < (s.fams.length : Int); omega,?_⟩;(conv=>whnf);refine ⟨rfl,by omega,(by decide : 0 + 1 ≤ 2),?_⟩;rw [show s.fams.getD (0 + Int.toNat (v : Int)) (S.zero .fam) = s.fams.getD (Int.toNat (v : Int)) (S.zero .fam) by rw [Nat.zero_add]];generalize s.fams.getD (Int.toNat (v : Int)) (S.zero .fam) = fm at hfs hys hF;obtain ⟨fa,ft⟩ := fm;simp only at hfs hys;have hwf : IntKind.i64.wrap (fa + (i : Int)) = fa + i := wrap_i64 (by omega) (by omega);have hye : ids ++ numsF fa (i + 1) = ys ++ [fa + (i : Int)] := by rw [numsF_succ,hys,List.append_assoc]
     clear hys;(conv=>whnf);refine ⟨rfl,by simp,?_⟩;(conv=>whnf);refine ⟨rfl,by show 0 + m ≤ ys.length; omega,fits_big (by show m + 1 ≤ _; omega) (by decide),rfl,?_⟩;rw [hwf];(conv=>whnf);refine ⟨[0,1,2,5],[],relo_of [0,1,2,5] (by rfl) (by rfl),?_⟩;refine ⟨⟨i + 1,m + 1,ys ++ [fa + (i : Int)],by omega,by omega,by simp [hmy],?_,congrArg (adV3 3 most l (m + 1) v j own.length) hwi,?_⟩,?_⟩
     · rw [hye]
     · have e : ys.take m = ys := by rw [hmy,List.take_length]
       conv => rhs; rw [← e]
       rfl
     · show own.length - (IntKind.i64.wrap ((i : Int) + 1)).toNat < own.length - (i : Int).toNat;rw [hwi]; omega
 · refine look_none h2 ?_;have hwm : IntKind.i64.wrap ((s.many : Int) + own.length) = ((s.many + own.length : Nat) : Int) := wrap_i64 (by omega) (by omega);rw [h1] at hAe;(conv=>whnf);rw [hwm];cases hcm : decide (most < ((s.many + own.length : Nat) : Int))
   rotate_left
   · (conv=>whnf);have hA : addG most s ids ⟨some t,ex⟩ = none := hAe (if_pos (by have := of_decide_eq_true hcm; omega));rw [hA] at hF;refine eQ [0,1,2] ⟨?_,?_⟩
     · rw [hF];show _ = adR (s,[],(j : Int));unfold adR;rw [if_neg (by simp only; omega)];rfl
     · rw [hF];show _ = adHR [.bool true] (s,[],(j : Int));unfold adHR;rw [if_neg (by simp only; omega)];rfl
   · (conv=>whnf);have hA : addG most s ids ⟨some t,ex⟩ = some (⟨s.fams ++ [⟨s.many,some own⟩],s.es ++ [(keyB own,(s.fams.length : Int))],s.many + own.length⟩,ids ++ numsF s.many own.length) := hAe (if_neg (by have := of_decide_eq_false hcm; omega));refine put_none h2 ?_;(conv=>whnf);refine tQ ?_;(conv=>whnf);refine ⟨rfl,by simp,?_⟩;(conv=>whnf);refine ⟨rfl,by show 0 + s.fams.length ≤ s.fams.length; omega,fits_big (by show s.fams.length + 1 ≤ _; omega) (by decide),rfl,?_⟩;(conv=>whnf);refine tQ ?_;(conv=>whnf);rw [hwm];have hfr : ((s.fams ++ [(⟨s.many,some own⟩ : El_fam)] : List El_fam).getD (s.fams.length : Int).toNat (S.zero .fam)).first = s.many := by simp
     have hA : addG most s ids ⟨some t,ex⟩ = some (⟨s.fams ++ [⟨s.many,some own⟩],s.es ++ [(keyB own,(s.fams.length : Int))],s.many + own.length⟩,ids ++ numsF ((s.fams ++ [(⟨s.many,some own⟩ : El_fam)] : List El_fam).getD (s.fams.length : Int).toNat (S.zero .fam)).first own.length) := by rw [hfr]; exact hA
     have hok := addG_ok hs (by omega) hi hgg hA;rw [hA] at hF
     have hv0 : 0 ≤ ((s.fams.length : Int) : Int) ∧ ((s.fams.length : Int) : Int) < (s.fams ++ [(⟨s.many,some own⟩ : El_fam)] : List El_fam).length := by
      exact ⟨by omega,by simp only [List.length_append,List.length_singleton]; omega⟩
     have hfs : 0 ≤ ((s.fams ++ [(⟨s.many,some own⟩ : El_fam)] : List El_fam).getD ((s.fams.length : Int) : Int).toNat (S.zero .fam)).first ∧ ((s.fams ++ [(⟨s.many,some own⟩ : El_fam)] : List El_fam).getD ((s.fams.length : Int) : Int).toNat (S.zero .fam)).first ≤ ((j * 1048576 + 1048576 : Nat) : Int) := hok.1.fams _ (show (s.fams ++ [(⟨s.many,some own⟩ : El_fam)] : List El_fam).getD ((s.fams.length : Int) : Int).toNat (S.zero .fam) ∈ (s.fams ++ [(⟨s.many,some own⟩ : El_fam)] : List El_fam) by
      have : ((s.fams.length : Int) : Int).toNat < (s.fams ++ [(⟨s.many,some own⟩ : El_fam)] : List El_fam).length := by omega
      simp [List.getD])
     refine loop_of [] [0,1,5,3] (fun vs H => ∃ (i m : Nat) (ys : List Int),i ≤ own.length ∧ m = n + i ∧ m = ys.length ∧ ys = ids ++ numsF ((s.fams ++ [(⟨s.many,some own⟩ : El_fam)] : List El_fam).getD ((s.fams.length : Int) : Int).toNat (S.zero .fam)).first i ∧ vs = adV3 3 most l m (s.fams.length : Int) j own.length i ∧ H = [.cells [.own .fam 2 0 (s.fams ++ [(⟨s.many,some own⟩ : El_fam)] : List El_fam).length .whole,.mp 1,.int .i64 (s.many + own.length : Nat),.bool true],.map (esV (s.es ++ [(keyB own,(s.fams.length : Int))])),.row .fam (s.fams ++ [(⟨s.many,some own⟩ : El_fam)] : List El_fam),.row .int ys])
      (fun vs _ => match vs with | [_,_,_,_,_,_,_,_,.int _ j] => own.length - j.toNat | _ => 0) (by rfl) (by rfl) (by rfl) (by rfl) ⟨0,n,ids,Nat.zero_le _,rfl,hn,by simp [numsF],rfl,by
       show ([.cells [.own .fam 2 0 (s.fams.length + 1) .whole,.mp 1,.int .i64 ((s.many + own.length : Nat) : Int),.bool true],.map (esV s.es ++ [(.str (keyB own),.int .i64 (s.fams.length : Int))]),.row .fam (s.fams.take s.fams.length ++ [⟨s.many,some own⟩]),.row .int ids] : Heap KT ElT) = _
       simp [esV]⟩ ?_
     rintro vs H1 ⟨i,m,ys,hi3,hm,hmy,hys,rfl,rfl⟩;(conv=>whnf);cases hd3 : decide ((i : Int) < own.length)
     · (conv=>whnf);have := of_decide_eq_false hd3;obtain rfl : i = own.length := by omega
       refine ⟨[0,1,2,3],[],relo_of [0,1,2,3] (by rfl) (by rfl),?_⟩;refine ⟨⟨j + 1,m,(⟨s.fams ++ [⟨s.many,some own⟩],s.es ++ [(keyB own,(s.fams.length : Int))],s.many + own.length⟩ : CS),ys,by omega,hmy,?_,?_,?_,?_,congrArg (adV 3 most l m) hw,rfl⟩,?_⟩
       · omega
       · have := hok.1;rw [show j * 1048576 + 1048576 = (j + 1) * 1048576 by omega] at this;exact this
       · rw [hys]; exact hok.2.1
       · rw [hys]; exact hF
       · show l.length - (IntKind.i64.wrap ((j : Int) + 1)).toNat < l.length - (j : Int).toNat;rw [hw]; omega
     · (conv=>whnf);have hi4 := of_decide_eq_true hd3;have hwi : IntKind.i64.wrap ((i : Int) + 1) = ((i + 1 : Nat) : Int) := wrap_i64 (by omega) (by omega);refine ⟨rfl,by omega,by show ((s.fams.length : Int) : Int) < ((s.fams ++ [(⟨s.many,some own⟩ : El_fam)] : List El_fam).length : Int); omega,?_⟩;(conv=>whnf);refine ⟨rfl,by omega,(by decide : 0 + 1 ≤ 2),?_⟩;rw [show (s.fams ++ [(⟨s.many,some own⟩ : El_fam)] : List El_fam).getD (0 + Int.toNat ((s.fams.length : Int) : Int)) (S.zero .fam) = (s.fams ++ [(⟨s.many,some own⟩ : El_fam)] : List El_fam).getD (Int.toNat ((s.fams.length : Int) : Int)) (S.zero .fam) by rw [Nat.zero_add]];generalize (s.fams ++ [(⟨s.many,some own⟩ : El_fam)] : List El_fam).getD (Int.toNat ((s.fams.length : Int) : Int)) (S.zero .fam) = fm at hfs hys hF;obtain ⟨fa,ft⟩ := fm;simp only at hfs hys;have hwf : IntKind.i64.wrap (fa + (i : Int)) = fa + i := wrap_i64 (by omega) (by omega);have hye : ids ++ numsF fa (i + 1) = ys ++ [fa + (i : Int)] := by rw [numsF_succ,hys,List.append_assoc]
       clear hys;(conv=>whnf);refine ⟨rfl,by simp,?_⟩;(conv=>whnf);refine ⟨rfl,by show 0 + m ≤ ys.length; omega,fits_big (by show m + 1 ≤ _; omega) (by decide),rfl,?_⟩;rw [hwf];(conv=>whnf);refine ⟨[0,1,2,5],[],relo_of [0,1,2,5] (by rfl) (by rfl),?_⟩;refine ⟨⟨i + 1,m + 1,ys ++ [fa + (i : Int)],by omega,by omega,by simp [hmy],?_,congrArg (adV3 3 most l (m + 1) (s.fams.length : Int) j own.length) hwi,?_⟩,?_⟩
       · rw [hye]
       · have e : ys.take m = ys := by rw [hmy,List.take_length]
         conv => rhs; rw [← e]
         rfl
       · show own.length - (IntKind.i64.wrap ((i : Int) + 1)).toNat < own.length - (i : Int).toNat;rw [hwi]; omega
theorem c_add2 (most : Int) (hmost : 4611686018427387904 ≤ most) (l : List El_grp) (hl : l.length ≤ 1048576) (hg : ∀ g ∈ l,good_grp 1048576 g) (s0 : CS) (hs0 : okCS s0 1099511627776) :
    Spec S 228 [.ptr 0 0,.imm .grp l,.int .i64 most] (adE [.bool true] s0) (fun r H' => r = .tup [.own .int 3 0 (addL most s0 [] 0 l).2.1.length .whole,.int .i64 (-1)] ∧ ∃ o0 o1 o2,H' = [o0,o1,o2,.row .int (addL most s0 [] 0 l).2.1]) := by
 refine specE ok sh228 rfl ?_;conv=>whnf
 refine loop_of [.slot 8 .int] [0,1,2,3] (fun vs H => ∃ (j n : Nat) (s : CS) (ids : List Int),j ≤ l.length ∧ n = ids.length ∧ n ≤ j * 1048576 ∧ okCS s (1099511627776 + j * 1048576) ∧ okIds ids 4398046511104 ∧ addL most s0 [] 0 l = addL most s ids j (l.drop j) ∧ ((vs = adV 3 most l n j ∧ H = adH [.bool true] s ids) ∨ (vs = adV 4 most l n j ∧ H = adB [.bool true] s ids)))
  (fun vs _ => match vs with | [_,_,_,_,_,.int _ j] => l.length - j.toNat | _ => 0) (by rfl) (by rfl) (by rfl) (by rfl) ⟨0,0,s0,[],Nat.zero_le _,rfl,Nat.zero_le _,by rw [Nat.zero_mul]; exact hs0,fun x h => by simp at h,rfl,.inl ⟨rfl,rfl⟩⟩ ?_
 rintro vs H1 ⟨j,n,s,ids,hj,hn,hnl,hs,hi,hF,⟨rfl,rfl⟩ | ⟨rfl,rfl⟩⟩
 · (conv=>whnf);cases hd : decide ((j : Int) < l.length)
   · (conv=>whnf);have := of_decide_eq_false hd;obtain rfl : j = l.length := by omega
     rw [List.drop_length] at hF;rw [hF];refine eQ [0,1,2,3] ⟨?_,_,_,_,rfl⟩;rw [hn]; rfl
   (conv=>whnf);have hjl := of_decide_eq_true hd;have hw : IntKind.i64.wrap ((j : Int) + 1) = ((j + 1 : Nat) : Int) := wrap_i64 (by omega) (by omega);refine ⟨rfl,by omega,by omega,?_⟩;(conv=>whnf);refine ⟨by omega,(by decide : 0 + 2 ≤ 2),?_⟩;rw [show l.getD (Int.toNat (j : Int)) (S.zero .grp) = l.getD j (S.zero .grp) by rw [Int.toNat_natCast]];have hx := getD_at (show j < l.length by omega) (S.zero .grp);have hgx := hg _ (List.mem_of_getElem? hx);rw [addL_cons hx] at hF;generalize l.getD j (S.zero .grp) = g at hx hgx hF;have hgg := hgx;have hO := ownG_ok hi (by omega) hgx;have hKl := keyG_len hi (by omega) hgx;obtain ⟨ty,ex⟩ := g;obtain ⟨t,ht0,htl,htg⟩ := hgx;simp only at ht0;subst ht0;have hmany := hs.many;have hflen := hs.len;(conv=>whnf);refine cQ [3] (c_rolled n ids) ?_;conv=>whnf
   refine loop_of [.slot 12 .sub] [0,1,2,3,4,5,6] (fun vs H => ∃ i : Nat,i ≤ t.length ∧ vs = adV2 3 4 most l n j t i i ∧ H = [.cells [.own .fam 2 0 s.fams.length .whole,.mp 1,.int .i64 s.many,.bool true],.map (esV s.es),.row .fam s.fams,.row .int ids,.cells [.imm .sub t,.bool ex],idC 3 n,.row .sub ((t.take i).map (mapS ids))])
    (fun vs _ => match vs with | [_,_,_,_,_,_,_,_,_,_,_,.int _ j] => t.length - j.toNat | _ => 0) (by rfl) (by rfl) (by rfl) (by rfl) ⟨0,Nat.zero_le _,rfl,rfl⟩ ?_
   rintro vs H1 ⟨i,hil,rfl,rfl⟩;(conv=>whnf);cases hd2 : decide ((i : Int) < t.length)
   rotate_left
   · (conv=>whnf);have hi2 := of_decide_eq_true hd2;have hwi : IntKind.i64.wrap ((i : Int) + 1) = ((i + 1 : Nat) : Int) := wrap_i64 (by omega) (by omega);refine ⟨rfl,by omega,by omega,?_⟩;(conv=>whnf);refine ⟨by omega,(by decide : 0 + 6 ≤ 6),?_⟩;rw [show t.getD (Int.toNat (i : Int)) (S.zero .sub) = t.getD i (S.zero .sub) by rw [Int.toNat_natCast]];have hy := getD_at (show i < t.length by omega) (S.zero .sub);have hgy := htg _ (List.mem_of_getElem? hy);have hm := map_take (mapS ids) hy;generalize t.getD i (S.zero .sub) = z at hy hgy hm;have hc := c_map n ids hn z hgy;have hxl : ((t.take i).map (mapS ids)).length = i := by simp; omega
     generalize (t.take i).map (mapS ids) = xs at hm hxl;obtain ⟨fi,sa,sk,sp,sr,sf⟩ := z;obtain ⟨⟨qa,ha0,_,_⟩,_,⟨qp,hp0,_,_⟩,⟨qr,hr0,_,_⟩,⟨qf,hf0,_,_⟩⟩ := hgy;simp only at ha0 hp0 hr0 hf0;subst ha0 hp0 hr0 hf0;(conv=>whnf);refine cQ [5,3] hc ?_;(conv=>whnf);refine ⟨rfl,by simp,?_⟩;(conv=>whnf);refine ⟨rfl,by show 0 + i ≤ xs.length; omega,fits_of (by show i + 1 ≤ _; omega) (by decide),rfl,?_⟩;(conv=>whnf);refine ⟨[0,1,2,3,4,5,9],[],relo_of [0,1,2,3,4,5,9] (by rfl) (by rfl),?_⟩;refine ⟨⟨i + 1,by omega,congrArg (adV2 3 4 most l n j t (i + 1)) hwi,?_⟩,?_⟩
     · rw [hm];have e : xs.take i = xs := by rw [← hxl,List.take_length]
       conv => rhs; rw [← e]
       rfl
     · show t.length - (IntKind.i64.wrap ((i : Int) + 1)).toNat < t.length - (i : Int).toNat;rw [hwi]; omega
   have := of_decide_eq_false hd2;obtain rfl : i = t.length := by omega
   clear hd2 hil;rw [List.take_length];have hol : (t.map (mapS ids)).length = t.length := by simp
   change (ownG ids ⟨some t,ex⟩).length ≤ _ ∧ _ at hO
   have hk := c_key (t.map (mapS ids)) hO.1 hO.2 hKl;have hAe : ∀ {o : Option (CS × List Int)},addG most s ids ⟨some t,ex⟩ = o → addG most s ids ⟨some t,ex⟩ = o := id;unfold addG at hAe
   change ∀ {o : Option (CS × List Int)},(match lookE (keyB (t.map (mapS ids))) s.es with
    | some v => some (s,ids ++ numsF (s.fams.getD v.toNat (S.zero .fam)).first (t.map (mapS ids)).length)
    | none => if most < (s.many : Int) + (t.map (mapS ids)).length then none else some (⟨s.fams ++ [⟨s.many,some (t.map (mapS ids))⟩],s.es ++ [(keyB (t.map (mapS ids)),(s.fams.length : Int))],s.many + (t.map (mapS ids)).length⟩,ids ++ numsF s.many (t.map (mapS ids)).length)) = o → _ at hAe
   change addL _ _ _ _ _ = (match addG most s ids ⟨some t,ex⟩ with | some (s',ids') => addL most s' ids' (j + 1) (l.drop (j + 1)) | none => (s,[],(j : Int))) at hF
   generalize hown : t.map (mapS ids) = own at hk hAe hol;clear hO hKl;(conv=>whnf);refine frz_of [0,1,2,3] [6] (by rfl) (by rfl) ⟨⟨trivial,trivial,trivial,trivial,trivial⟩,trivial,trivial,trivial,trivial⟩ ⟨trivial,trivial,trivial,trivial,⟨rfl,by show 0 + t.length ≤ own.length; omega⟩,trivial,trivial,trivial,trivial⟩ (vs := adV4 3 most l n j own) (H1 := [.cells [.own .fam 2 0 s.fams.length .whole,.mp 1,.int .i64 s.many,.bool true],.map (esV s.es),.row .fam s.fams,.row .int ids]) ?_ (by rfl) ?_
   · show ([.ptr 0 0,.int .i64 most,.own .int 3 0 n .whole,.int .i64 j,.imm .sub ((own.drop 0).take t.length),.imm .grp l,.int .i64 l.length,.int .i64 j] : List V) = _;rw [← hol,List.drop_zero,List.take_length];rfl
   (conv=>whnf);refine cQ [] hk ?_;conv=>whnf
   rcases mfind_esV (keyB own) s.es 0 with ⟨h1,h2⟩ | ⟨v,q,h1,h2⟩
   rotate_left
   · refine look_some h2 ?_;(conv=>whnf);have hA : addG most s ids ⟨some t,ex⟩ = some (s,ids ++ numsF (s.fams.getD v.toNat (S.zero .fam)).first own.length) := hAe (by rw [h1]);have hok := addG_ok hs (by omega) hi hgg hA;have hsv := hok.1.es;rw [hA] at hF
     have hv0 : 0 ≤ (v : Int) ∧ (v : Int) < s.fams.length := by
      obtain ⟨p,hp,rfl⟩ := look_mem h1;exact hsv p hp
     have hfs : 0 ≤ (s.fams.getD (v : Int).toNat (S.zero .fam)).first ∧ (s.fams.getD (v : Int).toNat (S.zero .fam)).first ≤ ((1099511627776 + j * 1048576 + 1048576 : Nat) : Int) := hok.1.fams _ (show s.fams.getD (v : Int).toNat (S.zero .fam) ∈ s.fams by
      have : (v : Int).toNat < s.fams.length := by omega
      simp [List.getD,List.getElem?_eq_getElem this])
     refine loop_of [] [0,1,2,3] (fun vs H => ∃ (i m : Nat) (ys : List Int),i ≤ own.length ∧ m = n + i ∧ m = ys.length ∧ ys = ids ++ numsF (s.fams.getD (v : Int).toNat (S.zero .fam)).first i ∧ vs = adV3 3 most l m v j own.length i ∧ H = [.cells [.own .fam 2 0 s.fams.length .whole,.mp 1,.int .i64 s.many,.bool true],.map (esV s.es),.row .fam s.fams,.row .int ys])
      (fun vs _ => match vs with | [_,_,_,_,_,_,_,_,.int _ j] => own.length - j.toNat | _ => 0) (by rfl) (by rfl) (by rfl) (by rfl) ⟨0,n,ids,Nat.zero_le _,rfl,hn,by simp [numsF],rfl,rfl⟩ ?_
     rintro vs H1 ⟨i,m,ys,hi3,hm,hmy,hys,rfl,rfl⟩;(conv=>whnf);cases hd3 : decide ((i : Int) < own.length)
     · (conv=>whnf);have := of_decide_eq_false hd3;obtain rfl : i = own.length := by omega
       refine ⟨[0,1,2,3],[],relo_of [0,1,2,3] (by rfl) (by rfl),?_⟩;refine ⟨⟨j + 1,m,s,ys,by omega,hmy,?_,?_,?_,?_,.inl ⟨congrArg (adV 3 most l m) hw,rfl⟩⟩,?_⟩
       · omega
       · have := hok.1;rw [show 1099511627776 + j * 1048576 + 1048576 = 1099511627776 + (j + 1) * 1048576 by omega] at this;exact this
       · rw [hys]; exact hok.2.1
       · rw [hys]; exact hF
       · show l.length - (IntKind.i64.wrap ((j : Int) + 1)).toNat < l.length - (j : Int).toNat;rw [hw]; omega
     · (conv=>whnf);have hi4 := of_decide_eq_true hd3;have hwi : IntKind.i64.wrap ((i : Int) + 1) = ((i + 1 : Nat) : Int) := wrap_i64 (by omega) (by omega);refine ⟨rfl,by omega,by show (v : Int) < (s.fams.length : Int); omega,?_⟩;(conv=>whnf);refine ⟨rfl,by omega,(by decide : 0 + 1 ≤ 2),?_⟩;rw [show s.fams.getD (0 + Int.toNat (v : Int)) (S.zero .fam) = s.fams.getD (Int.toNat (v : Int)) (S.zero .fam) by rw [Nat.zero_add]];generalize s.fams.getD (Int.toNat (v : Int)) (S.zero .fam) = fm at hfs hys hF;obtain ⟨fa,ft⟩ := fm;simp only at hfs hys;have hwf : IntKind.i64.wrap (fa + (i : Int)) = fa + i := wrap_i64 (by omega) (by omega);have hye : ids ++ numsF fa (i + 1) = ys ++ [fa + (i : Int)] := by rw [numsF_succ,hys,List.append_assoc]
       clear hys;(conv=>whnf);refine ⟨rfl,by simp,?_⟩;(conv=>whnf);refine ⟨rfl,by show 0 + m ≤ ys.length; omega,fits_big (by show m + 1 ≤ _; omega) (by decide),rfl,?_⟩;rw [hwf];(conv=>whnf);refine ⟨[0,1,2,5],[],relo_of [0,1,2,5] (by rfl) (by rfl),?_⟩;refine ⟨⟨i + 1,m + 1,ys ++ [fa + (i : Int)],by omega,by omega,by simp [hmy],?_,congrArg (adV3 3 most l (m + 1) v j own.length) hwi,?_⟩,?_⟩
       · rw [hye]
       · have e : ys.take m = ys := by rw [hmy,List.take_length]
         conv => rhs; rw [← e]
         rfl
       · show own.length - (IntKind.i64.wrap ((i : Int) + 1)).toNat < own.length - (i : Int).toNat;rw [hwi]; omega
   · refine look_none h2 ?_;have hwm : IntKind.i64.wrap ((s.many : Int) + own.length) = ((s.many + own.length : Nat) : Int) := wrap_i64 (by omega) (by omega);rw [h1] at hAe;(conv=>whnf);rw [hwm];cases hcm : decide (most < ((s.many + own.length : Nat) : Int))
     rotate_left
     · (conv=>whnf);have hA : addG most s ids ⟨some t,ex⟩ = none := hAe (if_pos (by have := of_decide_eq_true hcm; omega));rw [hA] at hF;have := of_decide_eq_true hcm;omega
     · (conv=>whnf);have hA : addG most s ids ⟨some t,ex⟩ = some (⟨s.fams ++ [⟨s.many,some own⟩],s.es ++ [(keyB own,(s.fams.length : Int))],s.many + own.length⟩,ids ++ numsF s.many own.length) := hAe (if_neg (by have := of_decide_eq_false hcm; omega));refine put_none h2 ?_;(conv=>whnf);refine tQ ?_;(conv=>whnf);refine ⟨rfl,by simp,?_⟩;(conv=>whnf);refine ⟨rfl,by show 0 + s.fams.length ≤ s.fams.length; omega,fits_big (by show s.fams.length + 1 ≤ _; omega) (by decide),rfl,?_⟩;(conv=>whnf);refine tQ ?_;(conv=>whnf);rw [hwm];have hfr : ((s.fams ++ [(⟨s.many,some own⟩ : El_fam)] : List El_fam).getD (s.fams.length : Int).toNat (S.zero .fam)).first = s.many := by simp
       have hA : addG most s ids ⟨some t,ex⟩ = some (⟨s.fams ++ [⟨s.many,some own⟩],s.es ++ [(keyB own,(s.fams.length : Int))],s.many + own.length⟩,ids ++ numsF ((s.fams ++ [(⟨s.many,some own⟩ : El_fam)] : List El_fam).getD (s.fams.length : Int).toNat (S.zero .fam)).first own.length) := by rw [hfr]; exact hA
       have hok := addG_ok hs (by omega) hi hgg hA;rw [hA] at hF
       have hv0 : 0 ≤ ((s.fams.length : Int) : Int) ∧ ((s.fams.length : Int) : Int) < (s.fams ++ [(⟨s.many,some own⟩ : El_fam)] : List El_fam).length := by
        exact ⟨by omega,by simp only [List.length_append,List.length_singleton]; omega⟩
       have hfs : 0 ≤ ((s.fams ++ [(⟨s.many,some own⟩ : El_fam)] : List El_fam).getD ((s.fams.length : Int) : Int).toNat (S.zero .fam)).first ∧ ((s.fams ++ [(⟨s.many,some own⟩ : El_fam)] : List El_fam).getD ((s.fams.length : Int) : Int).toNat (S.zero .fam)).first ≤ ((1099511627776 + j * 1048576 + 1048576 : Nat) : Int) := hok.1.fams _ (show (s.fams ++ [(⟨s.many,some own⟩ : El_fam)] : List El_fam).getD ((s.fams.length : Int) : Int).toNat (S.zero .fam) ∈ (s.fams ++ [(⟨s.many,some own⟩ : El_fam)] : List El_fam) by
        have : ((s.fams.length : Int) : Int).toNat < (s.fams ++ [(⟨s.many,some own⟩ : El_fam)] : List El_fam).length := by omega
        simp [List.getD])
       refine loop_of [] [0,1,2,5,3] (fun vs H => ∃ (i m : Nat) (ys : List Int),i ≤ own.length ∧ m = n + i ∧ m = ys.length ∧ ys = ids ++ numsF ((s.fams ++ [(⟨s.many,some own⟩ : El_fam)] : List El_fam).getD ((s.fams.length : Int) : Int).toNat (S.zero .fam)).first i ∧ vs = adV3 4 most l m (s.fams.length : Int) j own.length i ∧ H = [.cells [.own .fam 3 0 (s.fams ++ [(⟨s.many,some own⟩ : El_fam)] : List El_fam).length .whole,.mp 1,.int .i64 (s.many + own.length : Nat),.bool true],.map (esV (s.es ++ [(keyB own,(s.fams.length : Int))])),.gone,.row .fam (s.fams ++ [(⟨s.many,some own⟩ : El_fam)] : List El_fam),.row .int ys])
        (fun vs _ => match vs with | [_,_,_,_,_,_,_,_,.int _ j] => own.length - j.toNat | _ => 0) (by rfl) (by rfl) (by rfl) (by rfl) ⟨0,n,ids,Nat.zero_le _,rfl,hn,by simp [numsF],rfl,by
         show ([.cells [.own .fam 3 0 (s.fams.length + 1) .whole,.mp 1,.int .i64 ((s.many + own.length : Nat) : Int),.bool true],.map (esV s.es ++ [(.str (keyB own),.int .i64 (s.fams.length : Int))]),.gone,.row .fam (s.fams.take s.fams.length ++ [⟨s.many,some own⟩]),.row .int ids] : Heap KT ElT) = _
         simp [esV]⟩ ?_
       rintro vs H1 ⟨i,m,ys,hi3,hm,hmy,hys,rfl,rfl⟩;(conv=>whnf);cases hd3 : decide ((i : Int) < own.length)
       · (conv=>whnf);have := of_decide_eq_false hd3;obtain rfl : i = own.length := by omega
         refine ⟨[0,1,2,3,4],[],relo_of [0,1,2,3,4] (by rfl) (by rfl),?_⟩;refine ⟨⟨j + 1,m,(⟨s.fams ++ [⟨s.many,some own⟩],s.es ++ [(keyB own,(s.fams.length : Int))],s.many + own.length⟩ : CS),ys,by omega,hmy,?_,?_,?_,?_,.inr ⟨congrArg (adV 4 most l m) hw,rfl⟩⟩,?_⟩
         · omega
         · have := hok.1;rw [show 1099511627776 + j * 1048576 + 1048576 = 1099511627776 + (j + 1) * 1048576 by omega] at this;exact this
         · rw [hys]; exact hok.2.1
         · rw [hys]; exact hF
         · show l.length - (IntKind.i64.wrap ((j : Int) + 1)).toNat < l.length - (j : Int).toNat;rw [hw]; omega
       · (conv=>whnf);have hi4 := of_decide_eq_true hd3;have hwi : IntKind.i64.wrap ((i : Int) + 1) = ((i + 1 : Nat) : Int) := wrap_i64 (by omega) (by omega);refine ⟨rfl,by omega,by show ((s.fams.length : Int) : Int) < ((s.fams ++ [(⟨s.many,some own⟩ : El_fam)] : List El_fam).length : Int); omega,?_⟩;(conv=>whnf);refine ⟨rfl,by omega,(by decide : 0 + 1 ≤ 2),?_⟩;rw [show (s.fams ++ [(⟨s.many,some own⟩ : El_fam)] : List El_fam).getD (0 + Int.toNat ((s.fams.length : Int) : Int)) (S.zero .fam) = (s.fams ++ [(⟨s.many,some own⟩ : El_fam)] : List El_fam).getD (Int.toNat ((s.fams.length : Int) : Int)) (S.zero .fam) by rw [Nat.zero_add]];generalize (s.fams ++ [(⟨s.many,some own⟩ : El_fam)] : List El_fam).getD (Int.toNat ((s.fams.length : Int) : Int)) (S.zero .fam) = fm at hfs hys hF;obtain ⟨fa,ft⟩ := fm;simp only at hfs hys;have hwf : IntKind.i64.wrap (fa + (i : Int)) = fa + i := wrap_i64 (by omega) (by omega);have hye : ids ++ numsF fa (i + 1) = ys ++ [fa + (i : Int)] := by rw [numsF_succ,hys,List.append_assoc]
         clear hys;(conv=>whnf);refine ⟨rfl,by simp,?_⟩;(conv=>whnf);refine ⟨rfl,by show 0 + m ≤ ys.length; omega,fits_big (by show m + 1 ≤ _; omega) (by decide),rfl,?_⟩;rw [hwf];(conv=>whnf);refine ⟨[0,1,2,3,6],[],relo_of [0,1,2,3,6] (by rfl) (by rfl),?_⟩;refine ⟨⟨i + 1,m + 1,ys ++ [fa + (i : Int)],by omega,by omega,by simp [hmy],?_,congrArg (adV3 4 most l (m + 1) (s.fams.length : Int) j own.length) hwi,?_⟩,?_⟩
         · rw [hye]
         · have e : ys.take m = ys := by rw [hmy,List.take_length]
           conv => rhs; rw [← e]
           rfl
         · show own.length - (IntKind.i64.wrap ((i : Int) + 1)).toNat < own.length - (i : Int).toNat;rw [hwi]; omega
 · (conv=>whnf);cases hd : decide ((j : Int) < l.length)
   · (conv=>whnf);have := of_decide_eq_false hd;obtain rfl : j = l.length := by omega
     rw [List.drop_length] at hF;rw [hF];refine eQ [0,1,2,4] ⟨?_,_,_,_,rfl⟩;rw [hn]; rfl
   (conv=>whnf);have hjl := of_decide_eq_true hd;have hw : IntKind.i64.wrap ((j : Int) + 1) = ((j + 1 : Nat) : Int) := wrap_i64 (by omega) (by omega);refine ⟨rfl,by omega,by omega,?_⟩;(conv=>whnf);refine ⟨by omega,(by decide : 0 + 2 ≤ 2),?_⟩;rw [show l.getD (Int.toNat (j : Int)) (S.zero .grp) = l.getD j (S.zero .grp) by rw [Int.toNat_natCast]];have hx := getD_at (show j < l.length by omega) (S.zero .grp);have hgx := hg _ (List.mem_of_getElem? hx);rw [addL_cons hx] at hF;generalize l.getD j (S.zero .grp) = g at hx hgx hF;have hgg := hgx;have hO := ownG_ok hi (by omega) hgx;have hKl := keyG_len hi (by omega) hgx;obtain ⟨ty,ex⟩ := g;obtain ⟨t,ht0,htl,htg⟩ := hgx;simp only at ht0;subst ht0;have hmany := hs.many;have hflen := hs.len;(conv=>whnf);refine cQ [4] (c_rolled n ids) ?_;conv=>whnf
   refine loop_of [.slot 12 .sub] [0,1,2,3,4,5,6,7] (fun vs H => ∃ i : Nat,i ≤ t.length ∧ vs = adV2 4 5 most l n j t i i ∧ H = [.cells [.own .fam 3 0 s.fams.length .whole,.mp 1,.int .i64 s.many,.bool true],.map (esV s.es),.gone,.row .fam s.fams,.row .int ids,.cells [.imm .sub t,.bool ex],idC 4 n,.row .sub ((t.take i).map (mapS ids))])
    (fun vs _ => match vs with | [_,_,_,_,_,_,_,_,_,_,_,.int _ j] => t.length - j.toNat | _ => 0) (by rfl) (by rfl) (by rfl) (by rfl) ⟨0,Nat.zero_le _,rfl,rfl⟩ ?_
   rintro vs H1 ⟨i,hil,rfl,rfl⟩;(conv=>whnf);cases hd2 : decide ((i : Int) < t.length)
   rotate_left
   · (conv=>whnf);have hi2 := of_decide_eq_true hd2;have hwi : IntKind.i64.wrap ((i : Int) + 1) = ((i + 1 : Nat) : Int) := wrap_i64 (by omega) (by omega);refine ⟨rfl,by omega,by omega,?_⟩;(conv=>whnf);refine ⟨by omega,(by decide : 0 + 6 ≤ 6),?_⟩;rw [show t.getD (Int.toNat (i : Int)) (S.zero .sub) = t.getD i (S.zero .sub) by rw [Int.toNat_natCast]];have hy := getD_at (show i < t.length by omega) (S.zero .sub);have hgy := htg _ (List.mem_of_getElem? hy);have hm := map_take (mapS ids) hy;generalize t.getD i (S.zero .sub) = z at hy hgy hm;have hc := c_map n ids hn z hgy;have hxl : ((t.take i).map (mapS ids)).length = i := by simp; omega
     generalize (t.take i).map (mapS ids) = xs at hm hxl;obtain ⟨fi,sa,sk,sp,sr,sf⟩ := z;obtain ⟨⟨qa,ha0,_,_⟩,_,⟨qp,hp0,_,_⟩,⟨qr,hr0,_,_⟩,⟨qf,hf0,_,_⟩⟩ := hgy;simp only at ha0 hp0 hr0 hf0;subst ha0 hp0 hr0 hf0;(conv=>whnf);refine cQ [6,4] hc ?_;(conv=>whnf);refine ⟨rfl,by simp,?_⟩;(conv=>whnf);refine ⟨rfl,by show 0 + i ≤ xs.length; omega,fits_of (by show i + 1 ≤ _; omega) (by decide),rfl,?_⟩;(conv=>whnf);refine ⟨[0,1,2,3,4,5,6,10],[],relo_of [0,1,2,3,4,5,6,10] (by rfl) (by rfl),?_⟩;refine ⟨⟨i + 1,by omega,congrArg (adV2 4 5 most l n j t (i + 1)) hwi,?_⟩,?_⟩
     · rw [hm];have e : xs.take i = xs := by rw [← hxl,List.take_length]
       conv => rhs; rw [← e]
       rfl
     · show t.length - (IntKind.i64.wrap ((i : Int) + 1)).toNat < t.length - (i : Int).toNat;rw [hwi]; omega
   have := of_decide_eq_false hd2;obtain rfl : i = t.length := by omega
   clear hd2 hil;rw [List.take_length];have hol : (t.map (mapS ids)).length = t.length := by simp
   change (ownG ids ⟨some t,ex⟩).length ≤ _ ∧ _ at hO
   have hk := c_key (t.map (mapS ids)) hO.1 hO.2 hKl;have hAe : ∀ {o : Option (CS × List Int)},addG most s ids ⟨some t,ex⟩ = o → addG most s ids ⟨some t,ex⟩ = o := id;unfold addG at hAe
   change ∀ {o : Option (CS × List Int)},(match lookE (keyB (t.map (mapS ids))) s.es with
    | some v => some (s,ids ++ numsF (s.fams.getD v.toNat (S.zero .fam)).first (t.map (mapS ids)).length)
    | none => if most < (s.many : Int) + (t.map (mapS ids)).length then none else some (⟨s.fams ++ [⟨s.many,some (t.map (mapS ids))⟩],s.es ++ [(keyB (t.map (mapS ids)),(s.fams.length : Int))],s.many + (t.map (mapS ids)).length⟩,ids ++ numsF s.many (t.map (mapS ids)).length)) = o → _ at hAe
   change addL _ _ _ _ _ = (match addG most s ids ⟨some t,ex⟩ with | some (s',ids') => addL most s' ids' (j + 1) (l.drop (j + 1)) | none => (s,[],(j : Int))) at hF
   generalize hown : t.map (mapS ids) = own at hk hAe hol;clear hO hKl;(conv=>whnf);refine frz_of [0,1,2,3,4] [7] (by rfl) (by rfl) ⟨⟨trivial,trivial,trivial,trivial,trivial⟩,trivial,trivial,trivial,trivial,trivial⟩ ⟨trivial,trivial,trivial,trivial,⟨rfl,by show 0 + t.length ≤ own.length; omega⟩,trivial,trivial,trivial,trivial⟩ (vs := adV4 4 most l n j own) (H1 := [.cells [.own .fam 3 0 s.fams.length .whole,.mp 1,.int .i64 s.many,.bool true],.map (esV s.es),.gone,.row .fam s.fams,.row .int ids]) ?_ (by rfl) ?_
   · show ([.ptr 0 0,.int .i64 most,.own .int 4 0 n .whole,.int .i64 j,.imm .sub ((own.drop 0).take t.length),.imm .grp l,.int .i64 l.length,.int .i64 j] : List V) = _;rw [← hol,List.drop_zero,List.take_length];rfl
   (conv=>whnf);refine cQ [] hk ?_;conv=>whnf
   rcases mfind_esV (keyB own) s.es 0 with ⟨h1,h2⟩ | ⟨v,q,h1,h2⟩
   rotate_left
   · refine look_some h2 ?_;(conv=>whnf);have hA : addG most s ids ⟨some t,ex⟩ = some (s,ids ++ numsF (s.fams.getD v.toNat (S.zero .fam)).first own.length) := hAe (by rw [h1]);have hok := addG_ok hs (by omega) hi hgg hA;have hsv := hok.1.es;rw [hA] at hF
     have hv0 : 0 ≤ (v : Int) ∧ (v : Int) < s.fams.length := by
      obtain ⟨p,hp,rfl⟩ := look_mem h1;exact hsv p hp
     have hfs : 0 ≤ (s.fams.getD (v : Int).toNat (S.zero .fam)).first ∧ (s.fams.getD (v : Int).toNat (S.zero .fam)).first ≤ ((1099511627776 + j * 1048576 + 1048576 : Nat) : Int) := hok.1.fams _ (show s.fams.getD (v : Int).toNat (S.zero .fam) ∈ s.fams by
      have : (v : Int).toNat < s.fams.length := by omega
      simp [List.getD,List.getElem?_eq_getElem this])
     refine loop_of [] [0,1,2,3,4] (fun vs H => ∃ (i m : Nat) (ys : List Int),i ≤ own.length ∧ m = n + i ∧ m = ys.length ∧ ys = ids ++ numsF (s.fams.getD (v : Int).toNat (S.zero .fam)).first i ∧ vs = adV3 4 most l m v j own.length i ∧ H = [.cells [.own .fam 3 0 s.fams.length .whole,.mp 1,.int .i64 s.many,.bool true],.map (esV s.es),.gone,.row .fam s.fams,.row .int ys])
      (fun vs _ => match vs with | [_,_,_,_,_,_,_,_,.int _ j] => own.length - j.toNat | _ => 0) (by rfl) (by rfl) (by rfl) (by rfl) ⟨0,n,ids,Nat.zero_le _,rfl,hn,by simp [numsF],rfl,rfl⟩ ?_
     rintro vs H1 ⟨i,m,ys,hi3,hm,hmy,hys,rfl,rfl⟩;(conv=>whnf);cases hd3 : decide ((i : Int) < own.length)
     · (conv=>whnf);have := of_decide_eq_false hd3;obtain rfl : i = own.length := by omega
       refine ⟨[0,1,2,3,4],[],relo_of [0,1,2,3,4] (by rfl) (by rfl),?_⟩;refine ⟨⟨j + 1,m,s,ys,by omega,hmy,?_,?_,?_,?_,.inr ⟨congrArg (adV 4 most l m) hw,rfl⟩⟩,?_⟩
       · omega
       · have := hok.1;rw [show 1099511627776 + j * 1048576 + 1048576 = 1099511627776 + (j + 1) * 1048576 by omega] at this;exact this
       · rw [hys]; exact hok.2.1
       · rw [hys]; exact hF
       · show l.length - (IntKind.i64.wrap ((j : Int) + 1)).toNat < l.length - (j : Int).toNat;rw [hw]; omega
     · (conv=>whnf);have hi4 := of_decide_eq_true hd3;have hwi : IntKind.i64.wrap ((i : Int) + 1) = ((i + 1 : Nat) : Int) := wrap_i64 (by omega) (by omega);refine ⟨rfl,by omega,by show (v : Int) < (s.fams.length : Int); omega,?_⟩;(conv=>whnf);refine ⟨rfl,by omega,(by decide : 0 + 1 ≤ 2),?_⟩;rw [show s.fams.getD (0 + Int.toNat (v : Int)) (S.zero .fam) = s.fams.getD (Int.toNat (v : Int)) (S.zero .fam) by rw [Nat.zero_add]];generalize s.fams.getD (Int.toNat (v : Int)) (S.zero .fam) = fm at hfs hys hF;obtain ⟨fa,ft⟩ := fm;simp only at hfs hys;have hwf : IntKind.i64.wrap (fa + (i : Int)) = fa + i := wrap_i64 (by omega) (by omega);have hye : ids ++ numsF fa (i + 1) = ys ++ [fa + (i : Int)] := by rw [numsF_succ,hys,List.append_assoc]
       clear hys;(conv=>whnf);refine ⟨rfl,by simp,?_⟩;(conv=>whnf);refine ⟨rfl,by show 0 + m ≤ ys.length; omega,fits_big (by show m + 1 ≤ _; omega) (by decide),rfl,?_⟩;rw [hwf];(conv=>whnf);refine ⟨[0,1,2,3,6],[],relo_of [0,1,2,3,6] (by rfl) (by rfl),?_⟩;refine ⟨⟨i + 1,m + 1,ys ++ [fa + (i : Int)],by omega,by omega,by simp [hmy],?_,congrArg (adV3 4 most l (m + 1) v j own.length) hwi,?_⟩,?_⟩
       · rw [hye]
       · have e : ys.take m = ys := by rw [hmy,List.take_length]
         conv => rhs; rw [← e]
         rfl
       · show own.length - (IntKind.i64.wrap ((i : Int) + 1)).toNat < own.length - (i : Int).toNat;rw [hwi]; omega
   · refine look_none h2 ?_;have hwm : IntKind.i64.wrap ((s.many : Int) + own.length) = ((s.many + own.length : Nat) : Int) := wrap_i64 (by omega) (by omega);rw [h1] at hAe;(conv=>whnf);rw [hwm];cases hcm : decide (most < ((s.many + own.length : Nat) : Int))
     rotate_left
     · (conv=>whnf);have hA : addG most s ids ⟨some t,ex⟩ = none := hAe (if_pos (by have := of_decide_eq_true hcm; omega));rw [hA] at hF;have := of_decide_eq_true hcm;omega
     · (conv=>whnf);have hA : addG most s ids ⟨some t,ex⟩ = some (⟨s.fams ++ [⟨s.many,some own⟩],s.es ++ [(keyB own,(s.fams.length : Int))],s.many + own.length⟩,ids ++ numsF s.many own.length) := hAe (if_neg (by have := of_decide_eq_false hcm; omega));refine put_none h2 ?_;(conv=>whnf);refine tQ ?_;(conv=>whnf);refine ⟨rfl,by simp,?_⟩;(conv=>whnf);refine ⟨rfl,by show 0 + s.fams.length ≤ s.fams.length; omega,fits_big (by show s.fams.length + 1 ≤ _; omega) (by decide),rfl,?_⟩;(conv=>whnf);refine tQ ?_;(conv=>whnf);rw [hwm];have hfr : ((s.fams ++ [(⟨s.many,some own⟩ : El_fam)] : List El_fam).getD (s.fams.length : Int).toNat (S.zero .fam)).first = s.many := by simp
       have hA : addG most s ids ⟨some t,ex⟩ = some (⟨s.fams ++ [⟨s.many,some own⟩],s.es ++ [(keyB own,(s.fams.length : Int))],s.many + own.length⟩,ids ++ numsF ((s.fams ++ [(⟨s.many,some own⟩ : El_fam)] : List El_fam).getD (s.fams.length : Int).toNat (S.zero .fam)).first own.length) := by rw [hfr]; exact hA
       have hok := addG_ok hs (by omega) hi hgg hA;rw [hA] at hF
       have hv0 : 0 ≤ ((s.fams.length : Int) : Int) ∧ ((s.fams.length : Int) : Int) < (s.fams ++ [(⟨s.many,some own⟩ : El_fam)] : List El_fam).length := by
        exact ⟨by omega,by simp only [List.length_append,List.length_singleton]; omega⟩
       have hfs : 0 ≤ ((s.fams ++ [(⟨s.many,some own⟩ : El_fam)] : List El_fam).getD ((s.fams.length : Int) : Int).toNat (S.zero .fam)).first ∧ ((s.fams ++ [(⟨s.many,some own⟩ : El_fam)] : List El_fam).getD ((s.fams.length : Int) : Int).toNat (S.zero .fam)).first ≤ ((1099511627776 + j * 1048576 + 1048576 : Nat) : Int) := hok.1.fams _ (show (s.fams ++ [(⟨s.many,some own⟩ : El_fam)] : List El_fam).getD ((s.fams.length : Int) : Int).toNat (S.zero .fam) ∈ (s.fams ++ [(⟨s.many,some own⟩ : El_fam)] : List El_fam) by
        have : ((s.fams.length : Int) : Int).toNat < (s.fams ++ [(⟨s.many,some own⟩ : El_fam)] : List El_fam).length := by omega
        simp [List.getD])
       refine loop_of [] [0,1,2,6,4] (fun vs H => ∃ (i m : Nat) (ys : List Int),i ≤ own.length ∧ m = n + i ∧ m = ys.length ∧ ys = ids ++ numsF ((s.fams ++ [(⟨s.many,some own⟩ : El_fam)] : List El_fam).getD ((s.fams.length : Int) : Int).toNat (S.zero .fam)).first i ∧ vs = adV3 4 most l m (s.fams.length : Int) j own.length i ∧ H = [.cells [.own .fam 3 0 (s.fams ++ [(⟨s.many,some own⟩ : El_fam)] : List El_fam).length .whole,.mp 1,.int .i64 (s.many + own.length : Nat),.bool true],.map (esV (s.es ++ [(keyB own,(s.fams.length : Int))])),.gone,.row .fam (s.fams ++ [(⟨s.many,some own⟩ : El_fam)] : List El_fam),.row .int ys])
        (fun vs _ => match vs with | [_,_,_,_,_,_,_,_,.int _ j] => own.length - j.toNat | _ => 0) (by rfl) (by rfl) (by rfl) (by rfl) ⟨0,n,ids,Nat.zero_le _,rfl,hn,by simp [numsF],rfl,by
         show ([.cells [.own .fam 3 0 (s.fams.length + 1) .whole,.mp 1,.int .i64 ((s.many + own.length : Nat) : Int),.bool true],.map (esV s.es ++ [(.str (keyB own),.int .i64 (s.fams.length : Int))]),.gone,.row .fam (s.fams.take s.fams.length ++ [⟨s.many,some own⟩]),.row .int ids] : Heap KT ElT) = _
         simp [esV]⟩ ?_
       rintro vs H1 ⟨i,m,ys,hi3,hm,hmy,hys,rfl,rfl⟩;(conv=>whnf);cases hd3 : decide ((i : Int) < own.length)
       · (conv=>whnf);have := of_decide_eq_false hd3;obtain rfl : i = own.length := by omega
         refine ⟨[0,1,2,3,4],[],relo_of [0,1,2,3,4] (by rfl) (by rfl),?_⟩;refine ⟨⟨j + 1,m,(⟨s.fams ++ [⟨s.many,some own⟩],s.es ++ [(keyB own,(s.fams.length : Int))],s.many + own.length⟩ : CS),ys,by omega,hmy,?_,?_,?_,?_,.inr ⟨congrArg (adV 4 most l m) hw,rfl⟩⟩,?_⟩
         · omega
         · have := hok.1;rw [show 1099511627776 + j * 1048576 + 1048576 = 1099511627776 + (j + 1) * 1048576 by omega] at this;exact this
         · rw [hys]; exact hok.2.1
         · rw [hys]; exact hF
         · show l.length - (IntKind.i64.wrap ((j : Int) + 1)).toNat < l.length - (j : Int).toNat;rw [hw]; omega
       · (conv=>whnf);have hi4 := of_decide_eq_true hd3;have hwi : IntKind.i64.wrap ((i : Int) + 1) = ((i + 1 : Nat) : Int) := wrap_i64 (by omega) (by omega);refine ⟨rfl,by omega,by show ((s.fams.length : Int) : Int) < ((s.fams ++ [(⟨s.many,some own⟩ : El_fam)] : List El_fam).length : Int); omega,?_⟩;(conv=>whnf);refine ⟨rfl,by omega,(by decide : 0 + 1 ≤ 2),?_⟩;rw [show (s.fams ++ [(⟨s.many,some own⟩ : El_fam)] : List El_fam).getD (0 + Int.toNat ((s.fams.length : Int) : Int)) (S.zero .fam) = (s.fams ++ [(⟨s.many,some own⟩ : El_fam)] : List El_fam).getD (Int.toNat ((s.fams.length : Int) : Int)) (S.zero .fam) by rw [Nat.zero_add]];generalize (s.fams ++ [(⟨s.many,some own⟩ : El_fam)] : List El_fam).getD (Int.toNat ((s.fams.length : Int) : Int)) (S.zero .fam) = fm at hfs hys hF;obtain ⟨fa,ft⟩ := fm;simp only at hfs hys;have hwf : IntKind.i64.wrap (fa + (i : Int)) = fa + i := wrap_i64 (by omega) (by omega);have hye : ids ++ numsF fa (i + 1) = ys ++ [fa + (i : Int)] := by rw [numsF_succ,hys,List.append_assoc]
         clear hys;(conv=>whnf);refine ⟨rfl,by simp,?_⟩;(conv=>whnf);refine ⟨rfl,by show 0 + m ≤ ys.length; omega,fits_big (by show m + 1 ≤ _; omega) (by decide),rfl,?_⟩;rw [hwf];(conv=>whnf);refine ⟨[0,1,2,3,6],[],relo_of [0,1,2,3,6] (by rfl) (by rfl),?_⟩;refine ⟨⟨i + 1,m + 1,ys ++ [fa + (i : Int)],by omega,by omega,by simp [hmy],?_,congrArg (adV3 4 most l (m + 1) (s.fams.length : Int) j own.length) hwi,?_⟩,?_⟩
         · rw [hye]
         · have e : ys.take m = ys := by rw [hmy,List.take_length]
           conv => rhs; rw [← e]
           rfl
         · show own.length - (IntKind.i64.wrap ((i : Int) + 1)).toNat < own.length - (i : Int).toNat;rw [hwi]; omega
end Sh
end Go.Proofs.YtomdfaelgcefdaaGreatDoor
