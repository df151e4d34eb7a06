/- HeapC Rel ShadeH Val ShadeB. -/
import Derived.KernelRfl
import Derived.Test.YtomdfaelgcefdaaGreatDoorGas
set_option maxRecDepth 100000
set_option maxHeartbeats 64000000
namespace Go.Proofs.YtomdfaelgcefdaaGreatDoor
open Go Go.RowKit
namespace Sh
theorem clT_none {e : Int} : ∀ {l : List El_sub} {n : Nat},clT e n l = none → ∀ s ∈ l,subOK e s = true := by
 intro l
 induction l with
 | nil => intro n _ s hs; cases hs
 | cons s r ih =>
  intro n h x hx;simp only [clT] at h;split at h
  · rename_i h1
    rcases List.mem_cons.1 hx with rfl | hx
    · exact h1
    · exact ih h x hx
  · cases h
theorem clG_ok : ∀ {l : List El_grp} {c : Nat},(clG c l).2 = 0 → ∀ s ∈ flat l,∀ m ∈ s.supers.getD [],0 ≤ m ∧ m < ((c + typesN l : Nat) : Int) := by
 intro l
 induction l with
 | nil => intro c _ s hs; simp [flat] at hs
 | cons g r ih =>
  intro c h s hs m hm;simp only [clG] at h;have e : typesN (g :: r) = (g.types.getD []).length + typesN r := by simp [typesN]
  split at h
  · simp at h
  · rename_i hn;simp only [flat,List.flatMap_cons,List.mem_append] at hs
    rcases hs with hs | hs
    · have h0 := clT_none hn s hs;unfold subOK okSub at h0;simp only [Bool.and_eq_true,List.all_eq_true] at h0;obtain ⟨_,_,_,h4,h5⟩ := h0;have h4 := h4 m hm;have h5 := h5 m hm;simp only [okI,Bool.and_eq_true,decide_eq_true_eq] at h4 h5;omega
    · have := ih h s hs m hm;omega
noncomputable def idN (l : List El_grp) (i : Nat) : Int := (idsF l).getD i 0
def supN (l : List El_grp) (i : Nat) : Option Nat := match (flat l)[i]? with
 | some s => (s.supers.getD []).head?.map Int.toNat
 | none => none
theorem emb_same {K : Type} {El : K → Type} {S : Seat K El} (ok : Ok S) {E : Env} {H : Heap K El} {w w' : World} (hE : Emb S E H w) (h : Below w.heap.size w w') : Emb S E H w' ∧ Ext E w E w' := by
 have hx : Ext E w E w' := ⟨h.size,fun b hb _ => h.block b hb,fun b s hs => by
     have hb : b < w.heap.size := by
      rcases Nat.lt_or_ge b w.heap.size with hlt | hge
      · exact hlt
      · simp [World.shape?,Array.getElem?_eq_none hge] at hs
     simp only [World.shape?] at hs ⊢;rw [h.block b hb]
     exact hs,fun i l hl => .inl hl,fun i b hi => .inl ⟨i,hi⟩,rfl,h.os,h.tape,h.output⟩
 refine ⟨⟨hE.len,fun i o' l ho' hi => OR.mono ok hx (fun b hb => by subst hb; exact h.block b (hE.lt i b hi)) (hE.obj i o' l ho' hi),hE.inj,
  fun i b hi => Nat.lt_of_lt_of_le (hE.lt i b hi) h.size,fun b hF => ⟨Nat.lt_of_lt_of_le (hE.F b hF).1 h.size,(hE.F b hF).2⟩,hE.gl.ext ok hx⟩,hx⟩
theorem own_blk {K : Type} {El : K → Type} {S : Seat K El} {E : Env} {w : World} {k : K} {i n : Nat} {v : Value} {b : Nat} (h : VR S E w (.own k i 0 n .whole) v) (hb : E.ρ[i]? = some (.blk b)) : ∃ cap,v = .slice (some ⟨b,0,none⟩) n cap ∧ n ≤ cap ∧ cap ≤ maxLen := by
 cases h with
 | own h1 _ _ hle hm ho =>
  rw [hb] at h1;cases h1
  rcases ho with ho | ho
  · exact ⟨_,by rw [ho,Nat.zero_mul],hle,hm⟩
  · exact absurd rfl ho.1
 | ownNil h1 => rw [hb] at h1; cases h1
 | ownGone h1 _ => rw [hb] at h1; cases h1
theorem imm_ints {E : Env} {w : World} {s : List Int} {v : Value} (h : VR Sh.S E w (.imm .int s) v) : ∃ A cap,v = .slice A s.length cap ∧ s.length ≤ cap ∧ cap ≤ maxLen ∧
    (s = [] ∨ ∃ b o,A = some ⟨b,o,none⟩ ∧ ∀ x,s[0]? = some x → w.cell? ⟨b,o,none⟩ = some (.int .i64 x)) := by
 generalize hu : (AV.imm KT.int s : V) = u at h;cases h <;> try (cases hu; done)
 · rename_i b o cap cs hs hle hm hc hv;cases hu;refine ⟨_,_,rfl,hle,hm,.inr ⟨b,o,rfl,fun x hx => ?_⟩⟩;have hv0 := hv 0 x 0 (.int .i64 x) hx rfl;have hl : 0 < s.length := (List.getElem?_eq_some_iff.1 hx).1;have hc0 := hc 0 (by simp only [Sh.S]; omega);simp only [Nat.zero_mul,Nat.add_zero] at hv0 hc0;rw [hc0];generalize cs 0 = y at hv0;cases hv0;rfl
 · rename_i A cap hm;cases hu;exact ⟨_,_,rfl,Nat.zero_le _,hm,.inl rfl⟩
theorem flat_good {l : List El_grp} (hg : ∀ g ∈ l,good_grp 1048576 g) : ∀ s ∈ flat l,good_sub 1048576 s := by
 intro s hs;simp only [flat,List.mem_flatMap] at hs;obtain ⟨g,hgl,hs⟩ := hs;obtain ⟨t,ht,_,htg⟩ := hg g hgl;rw [ht] at hs;exact htg s hs
theorem hpw (l : List El_grp) (hg : ∀ g ∈ l,good_grp 1048576 g) (hcz : (closedF l).2 = 0) {E : Env} {w : World} (hE : Emb Sh.S E (ctxH l) w) (h0 : 0 < typesN l) :
    ∃ bc bi ba ci ca,E.ρ[0]? = some (.blk bc) ∧ (typesN l ≤ ci ∧ ci ≤ maxLen) ∧ (typesN l ≤ ca ∧ ca ≤ maxLen) ∧ HpW bc bi 0 ci ba 0 ca (typesN l) (idN l) (supN l) w := by
 have hl : E.ρ.length = 3 := hE.len;have hil := idsF_len l;have hfl := flat_len l;obtain ⟨l0,h0⟩ : ∃ l,E.ρ[0]? = some l := ⟨_,List.getElem?_eq_getElem (by omega)⟩;obtain ⟨l1,h1⟩ : ∃ l,E.ρ[1]? = some l := ⟨_,List.getElem?_eq_getElem (by omega)⟩;obtain ⟨l2,h2⟩ : ∃ l,E.ρ[2]? = some l := ⟨_,List.getElem?_eq_getElem (by omega)⟩;have o0 := hE.obj 0 _ l0 rfl h0;have o1 := hE.obj 1 _ l1 rfl h1;have o2 := hE.obj 2 _ l2 rfl h2
 cases l0 with
 | gone => exact o0.elim
 | nil => exact o0.elim
 | blk bc =>
 cases l1 with
 | gone => exact o1.elim
 | nil =>
  have : idsF l = [] := o1;rw [this] at hil;simp at hil;omega
 | blk bi =>
 cases l2 with
 | gone => exact o2.elim
 | nil =>
  have : flat l = [] := o2;rw [this] at hfl;simp at hfl;omega
 | blk ba =>
  obtain ⟨c,e,hb,hcs,hc⟩ := o0;obtain ⟨ci,hbi,hil2,hvi⟩ := o1;obtain ⟨ca,hba,hal,hva⟩ := o2;obtain ⟨v1,k1,_,r1⟩ := hc 1 _ rfl;obtain ⟨v2,k2,_,r2⟩ := hc 2 _ rfl;obtain ⟨c1,rfl,q1,q2⟩ := own_blk r1 h1;obtain ⟨c2,rfl,q3,q4⟩ := own_blk r2 h2;refine ⟨bc,bi,ba,c1,c2,h0,⟨q1,q2⟩,⟨q3,q4⟩,by simp only [World.cell?,hb]; exact k1,by simp only [World.cell?,hb]; exact k2,fun i hi => ?_,fun i hi => ?_⟩
  · have hx := getD_at (show i < (idsF l).length by omega) (0 : Int);obtain ⟨v,k,r⟩ := hvi i _ hx 0 (.int .i64 _) rfl;cases r;have e1 : i * Sh.S.size .int + 0 = i := by simp [Sh.S]
    rw [e1] at k;simp only [World.cell?,hbi,Nat.zero_add];exact k
  · have hx := getD_at (show i < (flat l).length by omega) (Sh.S.zero .sub);have hgs := flat_good hg _ (List.mem_of_getElem? hx);have hok := clG_ok hcz _ (List.mem_of_getElem? hx);unfold supN;rw [hx];generalize (flat l).getD i (Sh.S.zero .sub) = x at hx hgs hok;obtain ⟨fi,su,ki,pa,re,fs⟩ := x;obtain ⟨⟨s,hs,_,_⟩,_⟩ := hgs;simp only at hs;subst hs;obtain ⟨v,k,r⟩ := hva i _ hx 1 (.imm .int s) rfl;obtain ⟨A,cap,rfl,p1,p2,p3⟩ := imm_ints r;refine ⟨A,s.length,cap,?_,p1,p2,?_⟩
    · have e1 : i * Sh.S.size .sub + 1 = i * 6 + 1 := by simp [Sh.S]
      rw [e1] at k;simp only [World.cell?,hba,Nat.zero_add];exact k
    · simp only [Option.getD_some] at hok ⊢
      cases s with
      | nil => exact .inl ⟨rfl,rfl⟩
      | cons m r =>
       rcases p3 with p3 | ⟨b,o,rfl,p3⟩
       · cases p3
       · have hm := hok m (List.mem_cons_self ..);refine .inr ⟨b,o,m.toNat,rfl,by simp,rfl,by omega,?_⟩;rw [p3 m rfl,Int.toNat_of_nonneg hm.1]
theorem c_heapD (l : List El_grp) (hl : l.length ≤ 1048576) (hg : ∀ g ∈ l,good_grp 1048576 g) (hcz : (closedF l).2 = 0) (a b : Nat) (ha : a < typesN l) (hb : b < typesN l) :
    SpecD Sh.S 190 [.ptr 0 0,.int .i64 a,.int .i64 b] (ctxH l) (.bool (upL (idN l) (supN l) (idN l b) (typesN l + 1) a)) (ctxH l) := by
 intro E w args hE hsz hva;obtain ⟨v0,hv0,hr0⟩ := hva 0 (.ptr 0 0) rfl;obtain ⟨v1,hv1,hr1⟩ := hva 1 _ rfl;obtain ⟨v2,hv2,hr2⟩ := hva 2 _ rfl
 obtain rfl : args = #[v0,v1,v2] := by
  have h1 : args.size = 3 := hsz;refine Array.ext (by simp [h1]) fun i hi1 hi2 => ?_;have h : i = 0 ∨ i = 1 ∨ i = 2 := by simp at hi2; omega
  rcases h with rfl | rfl | rfl
  · simpa using (Array.getElem?_eq_some_iff.1 hv0).2
  · simpa using (Array.getElem?_eq_some_iff.1 hv1).2
  · simpa using (Array.getElem?_eq_some_iff.1 hv2).2
 have hT := typesN_le hg;obtain ⟨bc,bi,ba,ci,ca,hρ,hci,hca,hW⟩ := hpw l hg hcz hE (by omega)
 have e0 : v0 = .pointer (some ⟨bc,0,none⟩) := by
  cases (show VR Sh.S E w (.ptr 0 0) v0 from hr0) with
  | ptr h => rw [hρ] at h; cases h; rfl
  | ptrGone h _ => rw [hρ] at h; cases h
 have e1 : v1 = .int .i64 a := by cases (show VR Sh.S E w (.int .i64 a) v1 from hr1); rfl
 have e2 : v2 = .int .i64 b := by cases (show VR Sh.S E w (.int .i64 b) v2 from hr2); rfl
 subst e0 e1 e2;refine (callsIn_wide.1 (Tryz.m_heap bc bi 0 ci ba 0 ca (typesN l) (idN l) (supN l) (by omega) hci hca w hW a b ha hb)).mono ?_;rintro e' w' ⟨rfl,hB⟩;have h := emb_same ok hE hB;exact ⟨_,_,E,_,rfl,⟨rfl,rfl⟩,.bool _,h.1,h.2⟩
end Sh
end Go.Proofs.YtomdfaelgcefdaaGreatDoor
namespace Go.Proofs.YtomdfaelgcefdaaGreatDoor
open Go
namespace Sh
section
variable {K : Type} {El : K → Type} {S : Seat K El}
def backB (n m : Nat) (ids js : List Nat) : Bool := (List.range n).all fun i => match js[i]? with
 | some j => Nat.ble m j || (match ids[j]? with
  | some i' => Nat.beq i' i
  | none => false)
 | none => false
theorem gones_get {ρ : List Loc} {g i b : Nat} (h : (ρ ++ List.replicate g .gone)[i]? = some (.blk b)) : ρ[i]? = some (.blk b) := by
 rcases Nat.lt_or_ge i ρ.length with hlt | hge
 · rwa [List.getElem?_append_left hlt] at h
 · rw [List.getElem?_append_right hge,List.getElem?_replicate] at h;split at h <;> simp at h
theorem emb_gones (ok : Ok S) {E : Env} {H : Heap K El} {w : World} (h : Emb S E H w) (g : Nat) : Emb S ⟨E.ρ ++ List.replicate g .gone,E.F⟩ (H ++ List.replicate g .gone) w ∧ Ext E w ⟨E.ρ ++ List.replicate g .gone,E.F⟩ w := by
 have hx : Ext E w ⟨E.ρ ++ List.replicate g .gone,E.F⟩ w :=
  ⟨Nat.le_refl _,fun _ _ _ => rfl,fun _ _ h => h,fun i l hi => .inl (by simp only []; rw [List.getElem?_append_left (List.getElem?_eq_some_iff.1 hi).1]; exact hi),
   fun i b hi => .inl ⟨i,gones_get hi⟩,rfl,rfl,rfl,rfl⟩
 refine ⟨⟨by simp [h.len],fun i o l ho hl => ?_,fun i j b hi hj => h.inj i j b (gones_get hi) (gones_get hj),fun i b hi => h.lt i b (gones_get hi),
  fun b hb => ⟨(h.F b hb).1,fun i hi => (h.F b hb).2 i (gones_get hi)⟩,h.gl.ext ok hx⟩,hx⟩
 rcases Nat.lt_or_ge i H.length with hlt | hge
 · rw [List.getElem?_append_left hlt] at ho;simp only [] at hl;rw [List.getElem?_append_left (by rw [h.len]; exact hlt)] at hl;exact OR.mono ok hx (fun b _ => rfl) (h.obj i o l ho hl)
 · rw [List.getElem?_append_right hge,List.getElem?_replicate] at ho;split at ho
   · cases ho; trivial
   · cases ho
theorem out_back {E : Env} {H : Heap K El} {w : World} {ids : List Nat} (h : Emb S E H w) (hl : ∀ i ∈ ids,i < H.length) {j b : Nat} (hj : (outEnv E ids).ρ[j]? = some (.blk b)) : ∃ i : Nat,E.ρ[i]? = some (.blk b) := by
 simp only [outEnv,List.getElem?_map] at hj
 cases hq : ids[j]? with
 | none => rw [hq] at hj; simp at hj
 | some i =>
  rw [hq] at hj; simp at hj;have hlt : i < E.ρ.length := by rw [h.len]; exact hl i (List.mem_of_getElem? hq)
  refine ⟨i,?_⟩;rw [List.getElem?_eq_getElem hlt];simpa [List.getD,List.getElem?_eq_getElem hlt] using hj
theorem okT_mem0 {H : Heap K El} {ids lent : List Nat} : ∀ {vs : List (AV K El)} {j : Nat} {u : AV K El},okT H ids lent vs → vs[j]? = some u → ok2 H ids lent u
 | [],_,_,_,h => by simp at h
 | _ :: _,0,_,h1,h => by simp at h; subst h; exact h1.1
 | _ :: _,_ + 1,_,h1,h => okT_mem0 h1.2 (by simpa using h)
theorem Spec.relo (ok : Ok S) {f : Nat} {vs : List (AV K El)} {H : Heap K El} {R R' : AV K El → Heap K El → Prop} (ids lent : List Nat) (hn : natsB H.length ids = true) (h1 : okT H ids lent vs) (h2 : okH H ids lent ids)
    (h : Spec S f (vs.map (loc2 H ids lent)) (locH H ids lent) R)
    (hr : ∀ r H',R r H' → ∃ g js,natsB (H'.length + g) js = true ∧ backB H.length H'.length ids js = true ∧ R' (loc (H' ++ List.replicate g .gone) js [] r) (locH (H' ++ List.replicate g .gone) js [])) :
    Spec S f vs H R' := by
 intro E w args hE hsz hva;have hn1 := (natsB_iff hn).1;have hn2 := (natsB_iff hn).2;have hsub : Sub S E H w ids lent (outEnv E ids) := .outEnv hE hn1 hn2;refine (h (outEnv E ids) w args (loc_Emb ok hsub h2) (by simp [hsz]) ?_).mono ?_
 · intro j u hj;rw [List.getElem?_map] at hj
   cases hq : vs[j]? with
   | none => rw [hq] at hj; simp at hj
   | some u0 =>
    rw [hq] at hj; simp at hj; subst hj;obtain ⟨v,hv,hr⟩ := hva j u0 hq;refine ⟨v,hv,loc2_VR ok hsub ?_ hr⟩;exact okT_mem0 h1 hq
 · rintro e w' ⟨v,r,E',H',rfl,hR,hv,hE',hx⟩;obtain ⟨g,js,hjs,hb,hR'⟩ := hr r H' hR;obtain ⟨hE1,hx1⟩ := emb_gones ok hE' g;have hjs1 := (natsB_iff hjs).1;have hjs2 : ∀ i ∈ js,i < (H' ++ List.replicate g (.gone : AO K El)).length := by simpa using (natsB_iff hjs).2
   have hsub1 : Sub S _ (H' ++ List.replicate g .gone) w' js [] (outEnv _ js) := .outEnv hE1 hjs1 hjs2;refine ⟨v,_,outEnv ⟨E'.ρ ++ List.replicate g .gone,E'.F⟩ js,_,rfl,hR',loc_VR ok hsub1 (okV_nil _ _ _) (VRv.mono ok hx1 hv),loc_Emb ok hsub1 (okH_nil _ _ _),?_⟩;refine ⟨hx.size,fun b hb hnot => hx.keep b hb fun i hi => ?_,hx.shape,fun i l hi => ?_,fun j b hj => ?_,hx.F,hx.os,hx.tape,hx.output⟩
   · obtain ⟨a,ha⟩ := out_back hE hn2 hi;exact hnot a ha
   · have hi0 : i < H.length := by rw [← hE.len]; exact (List.getElem?_eq_some_iff.1 hi).1
     have hbi := List.all_eq_true.1 hb i (List.mem_range.2 hi0)
     cases hq : js[i]? with
     | none => rw [hq] at hbi; simp at hbi
     | some j =>
      rw [hq] at hbi;simp only [Bool.or_eq_true,Nat.ble_eq] at hbi;have e1 : (outEnv ⟨E'.ρ ++ List.replicate g .gone,E'.F⟩ js).ρ[i]? = some ((E'.ρ ++ List.replicate g Loc.gone).getD j Loc.gone) := by simp only [outEnv,List.getElem?_map,hq,Option.map_some]
      rw [e1]
      rcases hbi with hbi | hbi
      · right;rw [← hE'.len] at hbi;rw [List.getD_eq_getElem?_getD,List.getElem?_append_right hbi,List.getElem?_replicate];split <;> rfl
      · cases hq2 : ids[j]? with
        | none => rw [hq2] at hbi; simp at hbi
        | some i' =>
         rw [hq2] at hbi;simp only [Nat.beq_eq] at hbi;subst hbi
         have e2 : (outEnv E ids).ρ[j]? = some l := by
          simp only [outEnv,List.getElem?_map,hq2,Option.map_some,List.getD_eq_getElem?_getD,hi,Option.getD_some]
         have := hx.mono j l e2
         rcases this with h3 | h3
         · left; rw [List.getD_eq_getElem?_getD,List.getElem?_append_left (List.getElem?_eq_some_iff.1 h3).1,h3]; rfl
         · right; rw [List.getD_eq_getElem?_getD,List.getElem?_append_left (List.getElem?_eq_some_iff.1 h3).1,h3]; rfl
   · obtain ⟨a,ha⟩ := out_back hE1 hjs2 hj
     rcases hx.fresh a b (gones_get ha) with ⟨c,hc⟩ | hle
     · exact .inl (out_back hE hn2 hc)
     · exact .inr hle
theorem Spec.nil {f : Nat} {vs vs' : List (AV K El)} {H : Heap K El} {R : AV K El → Heap K El → Prop} (h : Spec S f vs' H R) (hl : vs'.length = vs.length)
    (ha : ∀ (j : Nat) u,vs'[j]? = some u → ∃ u',vs[j]? = some u' ∧ (u = u' ∨ (u' = .nils ∧ ∃ k,u = .imm k []))) : Spec S f vs H R := by
 intro E w args hE hsz hva;refine h E w args hE (by rw [hsz,hl]) fun j u hj => ?_;obtain ⟨u',hu',h1 | ⟨h1,k,h2⟩⟩ := ha j u hj
 · subst h1; exact hva j _ hu'
 · subst h1 h2;obtain ⟨v,hv,hr⟩ := hva j _ hu';refine ⟨v,hv,?_⟩;cases (show VR S E w .nils v from hr);exact VR.immNil none 0 (Nat.zero_le _)
end
end Sh
end Go.Proofs.YtomdfaelgcefdaaGreatDoor
namespace Go.Proofs.YtomdfaelgcefdaaGreatDoor
open Go
namespace Sh
open Q
def LH0 : List Nat := [1,3,5,6,7,9,20,30,38]
def F190 : FC KT ElT := ⟨(.seq (.reg [q .box (a 0) 3,q .box (a 2) 5,q (.alloc [(.bool false)]) [] 6] LH0) (.seq (.block 0 (.seq (.reg [q (.load 1 false) (a 3) 10,m 1 11,q (.call 155) [(t 10),(t 11)] 12,q (.un .not) (a 12) 13,m 13 14,g 14 false (.load 1 false) (a 3) 15,g 14 false (.load 1 false) (a 5) 16,g 14 false (.call 155) [(t 15),(t 16)] 17,g 14 false (.un .not) (a 17) 18,q .pick [(t 14),(c (.bool true)),(t 18)] 19,m 19 9] LH0) (.cond (t 9) (.seq (.reg [p (.store 1) [(t 6),(c (.bool false))]] LH0) .ret) (.seq (.reg [m 1 21,q (.bin .lss .num) [(t 21),(i 0)] 22,m 22 23,g 23 true (.load 1 false) (a 5) 24,g 23 true (.bin .lss .num) [(t 24),(i 0)] 25,q .pick [(t 23),(t 25),(c (.bool false))] 26,m 26 20] LH0) (.cond (t 20) (.seq (.reg [m 1 27,q (.load 1 false) (a 5) 28,q (.call 212) [(t 27),(t 28)] 29,p (.store 1) [(t 6),(t 29)]] LH0) .ret) (.seq (.reg [q (.load 1 false) (a 5) 31,q (.bin .lss .num) [(t 31),(i 0)] 32,m 32 30] LH0) (.cond (t 30) (.seq (.reg [q (.load 1 false) (a 3) 33,m 1 34,q (.load 1 false) (a 5) 36,⟨.none,(.call 188),[(t 33),(t 34)],(.some 35),[5]⟩,q (.call 212) [(t 35),(t 36)] 37,p (.store 1) [(t 6),(t 37)]] LH0) .ret) (.seq (.reg [m 1 39,q (.bin .lss .num) [(t 39),(i 0)] 40,m 40 38] LH0) (.cond (t 38) (.seq (.reg [q (.load 1 false) (a 3) 41,q (.load 1 false) (a 5) 42,q (.call 188) [(t 41),(t 42)] 43,m 43 7] LH0) (.seq (.reg [m 1 44,q (.bin .eql .num) [(t 44),(i (-10))] 45,m 45 46,g 46 true .mov (a 7) 47,g 46 true (.bin .neq .num) [(t 47),(i (-1))] 48,q .pick [(t 46),(t 48),(c (.bool false))] 49,m 49 50,g 50 false .mov (a 1) 51,g 50 false (.bin .eql .num) [(t 51),(i (-2))] 52,g 50 false .mov (a 52) 53,g 53 true .mov (a 7) 54,g 53 true (.bin .eql .num) [(t 54),(i (-1))] 55,g 50 false .pick [(t 53),(t 55),(c (.bool false))] 56,q .pick [(t 50),(c (.bool true)),(t 56)] 57,p (.store 1) [(t 6),(t 57)]] LH0) .ret)) .skip))))))))) (.seq (.seq (.reg [q (.load 1 false) (a 3) 58,m 1 59,q (.call 213) [(t 58),(t 59)] 60] LH0) (.block 1 .bad)) (.seq (.reg [p (.store 1) [(t 6),(c (.bool false))]] LH0) .ret)))),[(6,(.some (1,false)))],77⟩
theorem sh190 : shade S 190 LH0 [] = some F190 := by kernel_rfl
end Sh
end Go.Proofs.YtomdfaelgcefdaaGreatDoor
namespace Go.Proofs.YtomdfaelgcefdaaGreatDoor
open Go
namespace Sh
noncomputable def isF (l : List El_grp) (h : Int) : Bool := decide (-12 ≤ h) && decide (h < typesN l)
noncomputable def hpF (l : List El_grp) (a b : Int) : Bool := match isF l a,isF l b with
 | true,true =>
  if a < 0 then (if b < 0 then absF a b else (if a = -10 then !(knF l b.toNat == -1) else if a = -2 then knF l b.toNat == -1 else false))
  else if b < 0 then absF (knF l a.toNat) b
  else upL (idN l) (supN l) (idN l b.toNat) (typesN l + 1) a.toNat
 | _,_ => false
theorem c_heap (l : List El_grp) (hl : l.length ≤ 1048576) (hg : ∀ g ∈ l,good_grp 1048576 g) (hcz : (closedF l).2 = 0) (a b : Int) :
    SpecD S 190 [.ptr 0 0,.int .i64 a,.int .i64 b] (ctxH l) (.bool (hpF l a b)) (ctxH l) := by
 by_cases hab : (0 ≤ a ∧ a < typesN l) ∧ (0 ≤ b ∧ b < typesN l)
 · obtain ⟨⟨h1,h2⟩,h3,h4⟩ := hab;obtain ⟨n,rfl⟩ : ∃ n : Nat,a = n := ⟨a.toNat,by omega⟩;obtain ⟨m,rfl⟩ : ∃ n : Nat,b = n := ⟨b.toNat,by omega⟩;have h := c_heapD l hl hg hcz n m (by omega) (by omega);unfold hpF isF;rw [decide_eq_true (show -12 ≤ (n : Int) by omega),decide_eq_true (show -12 ≤ (m : Int) by omega),decide_eq_true h2,decide_eq_true h4];simp only [Bool.and_self];rw [if_neg (by omega),if_neg (by omega),Int.toNat_natCast,Int.toNat_natCast];exact h
 · have ia := c_is l a;have ib := c_is l b
   change SpecD S _ _ _ (.bool (isF l a)) _ at ia
   change SpecD S _ _ _ (.bool (isF l b)) _ at ib
   have da : isF l a = true → -12 ≤ a ∧ a < typesN l := by unfold isF; simp
   have db : isF l b = true → -12 ≤ b ∧ b < typesN l := by unfold isF; simp
   have ka : 0 ≤ a → a < typesN l → SpecD S 188 [.ptr 0 0,.int .i64 a] (ctxH l) (.int .i64 (knF l a.toNat)) (ctxH l) ∧ -12 ≤ knF l a.toNat ∧ knF l a.toNat < 0 := fun h0 h1 => by
    have h := c_kind l a.toNat (by omega);rw [Int.toNat_of_nonneg h0] at h;exact ⟨h,knF_rng l a.toNat (by omega)⟩
   have kb : 0 ≤ b → b < typesN l → SpecD S 188 [.ptr 0 0,.int .i64 b] (ctxH l) (.int .i64 (knF l b.toNat)) (ctxH l) ∧ -12 ≤ knF l b.toNat ∧ knF l b.toNat < 0 := fun h0 h1 => by
    have h := c_kind l b.toNat (by omega);rw [Int.toNat_of_nonneg h0] at h;exact ⟨h,knF_rng l b.toNat (by omega)⟩
   unfold hpF;unfold ctxH at ia ib ka kb ⊢;generalize isF l a = pa at ia da ⊢;generalize isF l b = pb at ib db ⊢;generalize knF l a.toNat = ya at ka ⊢;generalize knF l b.toNat = yb at kb ⊢;refine specE ok sh190 rfl ?_;(conv=>whnf);refine cQ [0,1,2] ia ?_;(conv=>whnf);cases pa
   · (conv=>whnf);exact eQ [0,1,2] (by exact ⟨rfl,rfl⟩)
   (conv=>whnf);refine cQ [0,1,2] ib ?_;(conv=>whnf);cases pb
   · (conv=>whnf);exact eQ [0,1,2] (by exact ⟨rfl,rfl⟩)
   have da := da rfl;have db := db rfl;(conv=>whnf);cases ha : decide (a < 0)
   · have ha' := of_decide_eq_false ha;(conv=>whnf);cases hb : decide (b < 0)
     · have hb' := of_decide_eq_false hb;exact absurd ⟨⟨by omega,da.2⟩,by omega,db.2⟩ hab
     · have hb' := of_decide_eq_true hb;(conv=>whnf);obtain ⟨k1,k2,k3⟩ := ka (by omega) da.2;have hx := c_abstract ya b k2 k3 db.1 hb';refine cQ [0,1,2] k1 ?_;(conv=>whnf);refine tQ ?_;(conv=>whnf);refine cQ [] hx ?_;(conv=>whnf);refine eQ [0,1,2] ⟨?_,rfl⟩;simp only [if_neg ha',if_pos hb'];rfl
   · have ha' := of_decide_eq_true ha;(conv=>whnf);cases hb : decide (b < 0)
     · have hb' := of_decide_eq_false hb;(conv=>whnf);simp only [hb];(conv=>whnf);simp only [ha];(conv=>whnf);obtain ⟨k1,k2,k3⟩ := kb (by omega) db.2;refine cQ [0,1,2] k1 ?_;(conv=>whnf);simp only [if_pos ha',if_neg hb'];cases h1 : (a == -10)
       · have h1' : ¬ a = -10 := by simpa using h1
         (conv=>whnf);cases h2 : (a == -2)
         · have h2' : ¬ a = -2 := by simpa using h2
           (conv=>whnf);refine eQ [0,1,2] ⟨?_,rfl⟩;simp only [if_neg h1',if_neg h2'];rfl
         · have h2' : a = -2 := by simpa using h2
           (conv=>whnf);refine eQ [0,1,2] ⟨?_,rfl⟩;simp only [if_neg h1',if_pos h2'];rfl
       · have h1' : a = -10 := by simpa using h1
         subst h1';(conv=>whnf);cases h3 : (yb == -1)
         · simp only [bne,h3];(conv=>whnf);refine eQ [0,1,2] ⟨?_,rfl⟩;rfl
         · simp only [bne,h3];(conv=>whnf);refine eQ [0,1,2] ⟨?_,rfl⟩;rfl
     · have hb' := of_decide_eq_true hb;(conv=>whnf);have hx := c_abstract a b da.1 ha' db.1 hb';refine cQ [] hx ?_;(conv=>whnf);refine eQ [0,1,2] ⟨?_,rfl⟩;simp only [if_pos ha',if_pos hb'];rfl
end Sh
end Go.Proofs.YtomdfaelgcefdaaGreatDoor
namespace Go.Proofs.YtomdfaelgcefdaaGreatDoor
open Go
namespace Sh
open Q
def LB0 : List Nat := [0,2,3,4,5,6,10,11,12,29,30,31]
def LB1 : List Nat := [0,3,4,5,6,7,8,11,22,29,35]
def LB2 : List Nat := [0,1,4,5,6,7,11,21,34]
def LB3 : List Nat := [0,1,2,3,8,9,10,11,25,26,27,28]
def LB4 : List Nat := [0,2,3,4,5,6,10,17,43]
def LB5 : List Nat := [0,1,4,5,7,11,13,14,15,16]
def LB6 : List Nat := [0,2,3]
def LB7 : List Nat := [0,1,2,3,8,9,14]
def LB8 : List Nat := [0,1,2,6,7,12]
def LB9 : List Nat := [0,2]
def LB10 : List Nat := [0,2,3,6]
def F13 : FC KT ElT := ⟨(.seq (.reg [k (c .nils) 2] [0,2,4]) (.seq (.seq (.reg [m 0 3,q (.call 50) (a 3) 4] [0,2,4]) (.cond (t 4) (.seq (.reg [k (c .nils) 2] [0,2,4]) .ret) .skip)) (.seq (.reg [m 0 5,q .nilck (a 5) 6,q (.faddr 5) (a 6) 7,q (.faddr 0) (a 7) 8,q (.load 1 false) (a 8) 9,q (.call 51) (a 9) 10,m 10 2] [0,2,4]) .ret))),[(2,.none)],11⟩
theorem sh13 : shade S 13 [0,2,4] [] = some F13 := by kernel_rfl
def F15 : FC KT ElT := ⟨(.seq (.reg [k (i 0) 4] LB2) (.scope (.seq (.seq (.reg [m 0 8,q (.call 53) (a 8) 9,m 9 5] LB2) (.seq (.reg [m 5 10,q (.bin .neq .num) [(t 10),(i 0)] 11] LB2) (.cond (t 11) (.seq (.reg [m 5 12,m 12 4] LB2) .ret) .skip))) (.seq (.reg [m 0 13,q .nilck (a 13) 14,q (.faddr 5) (a 14) 15,q (.load 1 true) (a 15) 16,q (.alloc [.nils]) [] 6,p (.store 1) [(t 6),(t 16)]] LB2) (.seq (.seq (.reg [m 1 17,q (.len false) (a 17) 18,q (.bin .sub .num) [(t 18),(i 1)] 19,m 19 7] LB2) (.block 0 (.loop (.seq (.seq (.reg [m 7 20,q (.bin .geq .num) [(t 20),(i 0)] 21] LB2) (.cond (t 21) .skip (.exit 0))) (.seq (.block 1 (.seq (.reg [m 0 25,m 1 26,m 7 27,q (.iaddr .vt) [(t 26),(t 27)] 28,q (.load 3 true) (a 28) 29,q (.call 54) [(t 25),(t 29)] 30,m 30 24,q (.extract 0) (a 24) 31,q (.extract 1) (a 24) 32,m 32 4] LB2) (.seq (.reg [m 4 33,q (.bin .neq .num) [(t 33),(i 0)] 34] LB2) (.cond (t 34) (.goto 0) .skip)))) (.reg [m 7 22,q (.bin .sub .num) [(t 22),(i 1)] 23,m 23 7] LB2))) [0,1,6,7]))) (.seq (.seq (.reg [k (i 0) 4] LB2) .ret) (.seq .skip (.seq (.reg [m 0 35,q (.load 1 true) (a 6) 36,q .nilck (a 35) 37,q (.faddr 5) (a 37) 38,p (.store 1) [(t 38),(t 36)]] LB2) (.seq (.reg [m 4 39,m 39 4] LB2) .ret))))))) 0 (.seq .skip (.seq (.reg [m 0 35,q (.load 1 true) (a 6) 36,q .nilck (a 35) 37,q (.faddr 5) (a 37) 38,p (.store 1) [(t 38),(t 36)]] LB2) (.seq (.reg [m 4 39,m 39 4] LB2) .ret))))),[(4,.none)],40⟩
theorem sh15 : shade S 15 LB2 [[0,1,6,7]] = some F15 := by kernel_rfl
def F17 : FC KT ElT := ⟨(.seq (.reg [k (i 0) 6] LB8) (.seq (.seq (.reg [m 0 8,m 1 9,q (.call 15) [(t 8),(t 9)] 10,m 10 7] LB8) (.seq (.reg [m 7 11,q (.bin .neq .num) [(t 11),(i 0)] 12] LB8) (.cond (t 12) (.seq (.reg [m 7 13,m 13 6] LB8) .ret) .skip))) (.seq (.reg [m 0 14,m 2 15,q (.call 55) [(t 14),(t 15)] 16,m 16 6] LB8) .ret))),[(6,.none)],17⟩
theorem sh17 : shade S 17 LB8 [] = some F17 := by kernel_rfl
def F18 : FC KT ElT := ⟨(.seq (.reg [k (i 0) 8] LB7) (.seq (.seq (.reg [m 0 10,m 2 11,q (.call 15) [(t 10),(t 11)] 12,m 12 9] LB7) (.seq (.reg [m 9 13,q (.bin .neq .num) [(t 13),(i 0)] 14] LB7) (.cond (t 14) (.seq (.reg [m 9 15,m 15 8] LB7) .ret) .skip))) (.seq (.reg [m 0 16,q .nilck (a 16) 17,q (.faddr 6) (a 17) 18,m 1 19,m 2 20,m 3 22,m 0 24,q .nilck (a 24) 25,q (.faddr 5) (a 25) 26,m 0 28,q .nilck (a 28) 29,q (.faddr 3) (a 29) 30,q (.load 1 false) (a 30) 31,⟨.none,(.call 51),(a 20),(.some 21),[0,16,17,1,3,24,25,28,29,30]⟩,⟨.none,(.call 51),(a 22),(.some 23),[0,16,17,1,24,25,28,29,30]⟩,⟨.none,(.call 57),(a 26),(.some 27),[0,16,17,1,28,29,30]⟩,⟨.none,(.call 58),(a 31),(.some 32),[0,16,17,1]⟩,⟨.none,(.build [(.int .i64 0),.nils,.nils,(.int .i64 0),.nils,(.bool false)] [(0,1),(1,1),(2,1),(3,1),(4,1)]),[(t 19),(t 21),(t 23),(t 27),(t 32)],(.some 33),[]⟩,q (.call 56) [(t 18),(t 33)] 34] LB7) (.seq (.reg [m 0 35,m 2 36,q (.call 55) [(t 35),(t 36)] 37,m 37 8] LB7) .ret)))),[(8,.none)],38⟩
theorem sh18 : shade S 18 LB7 [] = some F18 := by kernel_rfl
def F24 : FC KT ElT := ⟨(.seq (.reg [k (c .nilp) 8] LB3) (.seq (.reg [m 0 12,q (.call 61) (a 12) 13,m 1 14,q (.call 51) (a 14) 15,m 2 16,q (.append .vt) [(t 15),(t 16)] 17,m 3 18,q (.call 51) (a 18) 19,⟨.none,(.build [(.bool false),.nils,.nils,.nils,.nils,.nils,.nils] [(0,1),(1,1),(2,1),(4,1)]),[(c (.bool true)),(t 13),(t 17),(t 19)],(.some 20),[]⟩,q .box (a 20) 21,m 21 9] LB3) (.seq (.seq (.reg [m 9 22,q .nilck (a 22) 23,q (.faddr 2) (a 23) 24,q (.load 1 false) (a 24) 25,q (.len false) (a 25) 26,k (i 0) 27] LB3) (.block 0 (.loop (.seq (.reg [q (.bin .lss .num) [(t 27),(t 26)] 28] LB3) (.seq (.cond (t 28) .skip (.exit 0)) (.seq (.block 1 (.seq (.reg [m 27 29,q (.iaddr .vt) [(t 25),(t 27)] 30,q (.load 3 true) (a 30) 31,⟨.none,(.alloc [(.int .i64 0),(.bool false),(.int .i64 0)]),[],(.some 11),[]⟩,m 29 10,p (.store 3) [(t 11),(t 31)]] LB3) (.reg [m 9 32,m 9 33,q .nilck (a 33) 34,q (.faddr 3) (a 34) 35,q (.load 1 false) (a 35) 36,m 10 37,m 1 38,q (.len false) (a 38) 39,q (.bin .lss .num) [(t 37),(t 39)] 40,m 40 41,g 41 false (.load 3 true) (a 11) 42,⟨(.some (41,false)),(.call 62),(a 42),(.some 43),[9,33,34,35]⟩,q .pick [(t 41),(c (.bool true)),(t 43)] 44,⟨.none,(.mkrow .bool),(a 44),(.some 45),[9,33,34,35]⟩,⟨.none,(.append .bool),[(t 36),(t 45)],(.some 46),[9]⟩,q .nilck (a 32) 47,q (.faddr 3) (a 47) 48,p (.store 1) [(t 48),(t 46)]] LB3))) (.reg [q (.bin .add .num) [(t 27),(i 1)] 49,m 49 27] LB3)))) [1,3,9,25,26,27]))) (.seq (.reg [m 9 50,q .nilck (a 50) 51,q (.faddr 6) (a 51) 52,m 3 53,m 9 55,q .nilck (a 55) 56,q (.faddr 3) (a 56) 57,q (.load 1 false) (a 57) 58,⟨.none,(.call 51),(a 53),(.some 54),[9,50,51,55,56,57]⟩,⟨.none,(.call 58),(a 58),(.some 59),[9,50,51]⟩,⟨.none,(.build [(.int .i64 0),.nils,.nils,(.int .i64 0),.nils,(.bool false)] [(0,1),(2,1),(4,1)]),[(i 2),(t 54),(t 59)],(.some 60),[]⟩,q (.call 56) [(t 52),(t 60)] 61] LB3) (.seq (.reg [m 9 62,m 62 8] LB3) .ret))))),[(8,.none)],63⟩
theorem sh24 : shade S 24 LB3 [[1,3,9,25,26,27]] = some F24 := by kernel_rfl
def F50 : FC KT ElT := ⟨(.seq (.reg [k (c (.bool false)) 2] LB9) (.seq (.reg [m 0 3,q (.bin .eql .ptr) [(t 3),(c .nilp)] 4,m 4 5,g 5 false .mov (a 0) 6,g 5 false .nilck (a 6) 7,g 5 false (.faddr 0) (a 7) 8,g 5 false (.load 1 false) (a 8) 9,g 5 false (.un .not) (a 9) 10,q .pick [(t 5),(c (.bool true)),(t 10)] 11,m 11 2] LB9) .ret)),[(2,.none)],12⟩
theorem sh50 : shade S 50 LB9 [] = some F50 := by kernel_rfl
def F51 : FC KT ElT := ⟨(.seq (.reg [k (c .nils) 2] LB6) (.seq (.reg [m 0 4,q (.len false) (a 4) 5,q (.mkslice .vt) [(t 5),(t 5)] 6,m 6 3] LB6) (.seq (.reg [m 3 7,m 0 8,q (.copy .vt) [(t 7),(t 8)] 9] LB6) (.seq (.reg [m 3 10,m 10 2] LB6) .ret)))),[(2,.none)],11⟩
theorem sh51 : shade S 51 LB6 [] = some F51 := by kernel_rfl
def F52 : FC KT ElT := ⟨(.seq (.reg [k (i 0) 2] LB9) (.seq (.reg [m 0 3,q .nilck (a 3) 4,q (.faddr 0) (a 4) 5,q (.load 1 false) (a 5) 6,q (.len false) (a 6) 7,m 7 2] LB9) .ret)),[(2,.none)],8⟩
theorem sh52 : shade S 52 LB9 [] = some F52 := by kernel_rfl
def F53 : FC KT ElT := ⟨(.seq (.reg [k (i 0) 2] LB10) (.seq (.block 0 (.seq (.reg [m 0 4,q (.call 50) (a 4) 5,m 5 3] LB10) (.cond (t 3) (.seq (.reg [k (i 7) 2] LB10) .ret) (.seq (.reg [m 0 7,q .nilck (a 7) 8,q (.faddr 6) (a 8) 9,q (.call 52) (a 9) 10,q (.bin .eql .num) [(t 10),(i 0)] 11,m 11 6] LB10) (.cond (t 6) (.seq (.reg [k (i 133) 2] LB10) .ret) .skip))))) (.seq (.reg [k (i 0) 2] LB10) .ret))),[(2,.none)],12⟩
theorem sh53 : shade S 53 LB10 [] = some F53 := by kernel_rfl
def F54 : FC KT ElT := ⟨(.seq (.reg [q .box (a 1) 3,⟨.none,(.alloc [(.int .i64 0),(.bool false),(.int .i64 0)]),[],(.some 4),[]⟩,k (i 0) 5] LB1) (.seq (.reg [k (i 0) 6] LB1) (.seq (.seq (.reg [m 0 9,q (.call 50) (a 9) 10,q (.un .not) (a 10) 11] LB1) (.cond (t 11) (.reg [m 0 12,q .nilck (a 12) 13,q (.faddr 5) (a 13) 14,q (.call 57) (a 14) 15,m 15 6] LB1) .skip)) (.seq (.reg [m 0 17,q (.call 95) (a 17) 18,m 18 16,q (.extract 0) (a 16) 19,q (.extract 1) (a 16) 20,⟨.none,(.alloc [(.int .i64 0),(.bool false),(.int .i64 0)]),[],(.some 7),[]⟩,p (.store 3) [(t 7),(t 19)],m 20 8] LB1) (.seq (.seq (.reg [m 8 21,q (.bin .neq .num) [(t 21),(i 0)] 22] LB1) (.cond (t 22) (.seq (.reg [q (.load 3 true) (a 7) 23,m 8 24,p (.store 3) [(t 4),(t 23)],m 24 5] LB1) .ret) .skip)) (.seq (.seq (.reg [m 0 25,q (.load 3 true) (a 7) 26,q (.load 3 true) (a 3) 27,q (.call 105) [(t 25),(t 26),(t 27)] 28,q (.un .not) (a 28) 29] LB1) (.cond (t 29) (.seq (.seq (.reg [m 0 30,q .nilck (a 30) 31,q (.faddr 5) (a 31) 32,q (.call 57) (a 32) 33,m 6 34,q (.bin .lss .num) [(t 33),(t 34)] 35] LB1) (.cond (t 35) (.reg [m 0 36,q .nilck (a 36) 37,q (.faddr 5) (a 37) 38,q (.load 3 true) (a 7) 39,q (.call 106) [(t 38),(t 39)] 40] LB1) .skip)) (.seq (.reg [⟨.none,(.build [(.int .i64 0),(.bool false),(.int .i64 0)] []),[],(.some 41),[]⟩,p (.store 3) [(t 4),(t 41)],k (i 131) 5] LB1) .ret)) .skip)) (.seq (.reg [q (.load 3 true) (a 7) 42,p (.store 3) [(t 4),(t 42)],k (i 0) 5] LB1) .ret))))))),[(4,(.some (3,true))),(5,.none)],43⟩
theorem sh54 : shade S 54 LB1 [] = some F54 := by kernel_rfl
def F55 : FC KT ElT := ⟨(.seq (.reg [k (i 0) 4] LB5) (.seq (.seq (.reg [m 0 8,q (.call 53) (a 8) 9,m 9 5] LB5) (.seq (.reg [m 5 10,q (.bin .neq .num) [(t 10),(i 0)] 11] LB5) (.cond (t 11) (.seq (.reg [m 5 12,m 12 4] LB5) .ret) .skip))) (.seq (.seq (.reg [m 1 13,q (.len false) (a 13) 14,k (i 0) 15] LB5) (.block 0 (.loop (.seq (.reg [q (.bin .lss .num) [(t 15),(t 14)] 16] LB5) (.seq (.cond (t 16) .skip (.exit 0)) (.seq (.block 1 (.seq (.reg [q (.iaddr .vt) [(t 13),(t 15)] 17,q (.load 3 true) (a 17) 18,⟨.none,(.alloc [(.int .i64 0),(.bool false),(.int .i64 0)]),[],(.some 7),[]⟩,p (.store 3) [(t 7),(t 18)]] LB5) (.reg [m 0 19,q .nilck (a 19) 20,q (.faddr 5) (a 20) 21,q (.load 3 true) (a 7) 22,q (.call 106) [(t 21),(t 22)] 23] LB5))) (.reg [q (.bin .add .num) [(t 15),(i 1)] 24,m 24 15] LB5)))) [0,13,14,15]))) (.seq (.reg [k (i 0) 4] LB5) .ret)))),[(4,.none)],25⟩
theorem sh55 : shade S 55 LB5 [[0,13,14,15]] = some F55 := by kernel_rfl
def F56 : FC KT ElT := ⟨(.seq (.reg [q .box (a 1) 3] [0,3]) (.reg [m 0 4,m 0 5,q .nilck (a 5) 6,q (.faddr 0) (a 6) 7,q (.load 1 false) (a 7) 8,q (.load 6 true) (a 3) 9,⟨.none,(.mkrow .frame),(a 9),(.some 10),[0,5,6,7]⟩,⟨.none,(.append .frame),[(t 8),(t 10)],(.some 11),[0]⟩,q .nilck (a 4) 12,q (.faddr 0) (a 12) 13,p (.store 1) [(t 13),(t 11)]] [0,3])),[],14⟩
theorem sh56 : shade S 56 [0,3] [] = some F56 := by kernel_rfl
def F57 : FC KT ElT := ⟨(.seq (.reg [k (i 0) 2] LB9) (.seq (.reg [m 0 3,q .nilck (a 3) 4,q (.faddr 0) (a 4) 5,q (.load 1 false) (a 5) 6,q (.len false) (a 6) 7,m 7 2] LB9) .ret)),[(2,.none)],8⟩
theorem sh57 : shade S 57 LB9 [] = some F57 := by kernel_rfl
def F58 : FC KT ElT := ⟨(.seq (.reg [k (c .nils) 2] LB6) (.seq (.reg [m 0 4,q (.len false) (a 4) 5,q (.mkslice .bool) [(t 5),(t 5)] 6,m 6 3] LB6) (.seq (.reg [m 3 7,m 0 8,q (.copy .bool) [(t 7),(t 8)] 9] LB6) (.seq (.reg [m 3 10,m 10 2] LB6) .ret)))),[(2,.none)],11⟩
theorem sh58 : shade S 58 LB6 [] = some F58 := by kernel_rfl
def F59 : FC KT ElT := ⟨(.seq (.reg [k (c .nilp) 2] LB9) (.seq (.reg [m 0 3,q .nilck (a 3) 4,q (.faddr 0) (a 4) 5,q (.load 1 false) (a 5) 6,m 0 7,q .nilck (a 7) 8,q (.faddr 0) (a 8) 9,q (.load 1 false) (a 9) 10,q (.len false) (a 10) 11,q (.bin .sub .num) [(t 11),(i 1)] 12,q (.iaddr .frame) [(t 6),(t 12)] 13,m 13 2] LB9) .ret)),[(2,.none)],14⟩
theorem sh59 : shade S 59 LB9 [] = some F59 := by kernel_rfl
def F61 : FC KT ElT := ⟨(.seq (.reg [k (c .nils) 2] LB0) (.seq (.reg [m 0 7,q (.call 107) (a 7) 8,m 8 3] LB0) (.seq (.seq (.reg [m 3 9,q (.len false) (a 9) 10,k (i 0) 11] LB0) (.block 0 (.loop (.seq (.reg [q (.bin .lss .num) [(t 11),(t 10)] 12] LB0) (.seq (.cond (t 12) .skip (.exit 0)) (.seq (.block 1 (.seq (.reg [m 11 13,m 13 4] LB0) (.seq (.reg [m 3 14,m 4 15,m 3 16,m 4 17,q (.iaddr .grp) [(t 16),(t 17)] 18,q (.faddr 0) (a 18) 19,q (.load 1 false) (a 19) 20,q (.call 108) (a 20) 21,q (.iaddr .grp) [(t 14),(t 15)] 22,q (.faddr 0) (a 22) 23,p (.store 1) [(t 23),(t 21)]] LB0) (.seq (.reg [m 3 24,m 4 25,q (.iaddr .grp) [(t 24),(t 25)] 26,q (.faddr 0) (a 26) 27,q (.load 1 false) (a 27) 28,q (.len false) (a 28) 29,k (i 0) 30] LB0) (.block 2 (.loop (.seq (.reg [q (.bin .lss .num) [(t 30),(t 29)] 31] LB0) (.seq (.cond (t 31) .skip (.exit 2)) (.seq (.block 3 (.seq (.reg [m 30 32,m 32 5] LB0) (.seq (.reg [m 3 33,m 4 34,q (.iaddr .grp) [(t 33),(t 34)] 35,q (.faddr 0) (a 35) 36,q (.load 1 false) (a 36) 37,m 5 38,q (.iaddr .sub) [(t 37),(t 38)] 39,m 39 6] LB0) (.seq (.reg [m 6 40,m 6 41,q .nilck (a 41) 42,q (.faddr 1) (a 42) 43,q (.load 1 false) (a 43) 44,q (.call 109) (a 44) 45,q .nilck (a 40) 46,q (.faddr 1) (a 46) 47,p (.store 1) [(t 47),(t 45)]] LB0) (.reg [m 6 48,m 6 49,m 6 50,m 6 51,q .nilck (a 51) 52,q (.faddr 2) (a 52) 53,q (.faddr 1) (a 53) 54,q (.load 1 false) (a 54) 55,m 6 57,q .nilck (a 57) 58,q (.faddr 2) (a 58) 59,q (.faddr 2) (a 59) 60,q (.load 1 false) (a 60) 61,m 6 63,q .nilck (a 63) 64,q (.faddr 2) (a 64) 65,q (.faddr 3) (a 65) 66,q (.load 1 false) (a 66) 67,⟨.none,(.call 51),(a 55),(.some 56),[6,57,58,59,60,63,64,65,66]⟩,⟨.none,(.call 51),(a 61),(.some 62),[6,63,64,65,66]⟩,⟨.none,(.call 110),(a 67),(.some 68),[6]⟩,q .nilck (a 48) 69,q (.faddr 2) (a 69) 70,q (.faddr 1) (a 70) 71,⟨.none,(.store 1),[(t 71),(t 56)],.none,[6]⟩,q .nilck (a 49) 72,q (.faddr 2) (a 72) 73,q (.faddr 2) (a 73) 74,⟨.none,(.store 1),[(t 74),(t 62)],.none,[6]⟩,q .nilck (a 50) 75,q (.faddr 2) (a 75) 76,q (.faddr 3) (a 76) 77,p (.store 1) [(t 77),(t 68)]] LB0))))) (.reg [q (.bin .add .num) [(t 30),(i 1)] 78,m 78 30] LB0)))) [3,4,10,11,29,30])))))) (.reg [q (.bin .add .num) [(t 11),(i 1)] 79,m 79 11] LB0)))) [3,10,11]))) (.seq (.reg [m 3 80,m 80 2] LB0) .ret)))),[(2,.none)],81⟩
theorem sh61 : shade S 61 LB0 [[3,10,11],[3,4,10,11,29,30]] = some F61 := by kernel_rfl
def F62 : FC KT ElT := ⟨(.seq (.reg [q .box (a 0) 1,k (c (.bool false)) 2] [1,2,5]) (.seq (.seq (.reg [q (.faddr 0) (a 1) 3,q (.load 1 false) (a 3) 4,q (.bin .eql .num) [(t 4),(i 5)] 5] [1,2,5]) (.cond (t 5) (.seq (.reg [q (.faddr 1) (a 1) 6,q (.load 1 false) (a 6) 7,m 7 2] [1,2,5]) .ret) .skip)) (.seq (.reg [q (.faddr 0) (a 1) 8,q (.load 1 false) (a 8) 9,q (.bin .geq .num) [(t 9),(i 1)] 10,m 10 11,g 11 true (.faddr 0) (a 1) 12,g 11 true (.load 1 false) (a 12) 13,g 11 true (.bin .leq .num) [(t 13),(i 7)] 14,q .pick [(t 11),(t 14),(c (.bool false))] 15,m 15 2] [1,2,5]) .ret))),[(2,.none)],16⟩
theorem sh62 : shade S 62 [1,2,5] [] = some F62 := by kernel_rfl
def F92 : FC KT ElT := ⟨(.seq (.reg [q .box (a 1) 3,k (i 0) 4] [0,3,4]) (.seq (.reg [m 0 5,q (.load 3 true) (a 3) 6,q (.mkrow .vt) (a 6) 7,q (.call 55) [(t 5),(t 7)] 8,m 8 4] [0,3,4]) .ret)),[(4,.none)],9⟩
theorem sh92 : shade S 92 [0,3,4] [] = some F92 := by kernel_rfl
def F95 : FC KT ElT := ⟨(.seq (.reg [⟨.none,(.alloc [(.int .i64 0),(.bool false),(.int .i64 0)]),[],(.some 2),[]⟩,k (i 0) 3] LB4) (.seq (.seq (.reg [m 0 7,q (.call 53) (a 7) 8,m 8 4] LB4) (.seq (.reg [m 4 9,q (.bin .neq .num) [(t 9),(i 0)] 10] LB4) (.cond (t 10) (.seq (.reg [⟨.none,(.build [(.int .i64 0),(.bool false),(.int .i64 0)] []),[],(.some 11),[]⟩,m 4 12,p (.store 3) [(t 2),(t 11)],m 12 3] LB4) .ret) .skip))) (.seq (.reg [m 0 13,q .nilck (a 13) 14,q (.faddr 6) (a 14) 15,q (.call 59) (a 15) 16,m 16 5] LB4) (.seq (.block 0 (.seq (.reg [m 0 18,q .nilck (a 18) 19,q (.faddr 5) (a 19) 20,m 5 22,q .nilck (a 22) 23,q (.faddr 3) (a 23) 24,q (.load 1 false) (a 24) 25,⟨.none,(.call 57),(a 20),(.some 21),[5,22,23,24]⟩,q (.bin .gtr .num) [(t 21),(t 25)] 26,m 26 17] LB4) (.cond (t 17) (.seq (.reg [m 0 27,q .nilck (a 27) 28,q (.faddr 5) (a 28) 29,q (.call 145) (a 29) 30,q .nilck (a 30) 31,q (.load 3 true) (a 31) 32,⟨.none,(.alloc [(.int .i64 0),(.bool false),(.int .i64 0)]),[],(.some 6),[]⟩,p (.store 3) [(t 6),(t 32)]] LB4) (.seq (.reg [m 0 33,q .nilck (a 33) 34,q (.faddr 5) (a 34) 35,m 0 36,q .nilck (a 36) 37,q (.faddr 5) (a 37) 38,⟨.none,(.call 57),(a 38),(.some 39),[0,33,34]⟩,q (.bin .sub .num) [(t 39),(i 1)] 40,q (.call 113) [(t 35),(t 40)] 41] LB4) (.seq (.reg [q (.load 3 true) (a 6) 42,p (.store 3) [(t 2),(t 42)],k (i 0) 3] LB4) .ret))) (.seq (.reg [m 5 44,q .nilck (a 44) 45,q (.faddr 5) (a 45) 46,q (.load 1 false) (a 46) 47,m 47 43] LB4) (.cond (t 43) (.seq (.reg [⟨.none,(.build [(.int .i64 0),(.bool false),(.int .i64 0)] []),[],(.some 48),[]⟩,p (.store 3) [(t 2),(t 48)],k (i 0) 3] LB4) .ret) .skip))))) (.seq (.reg [⟨.none,(.build [(.int .i64 0),(.bool false),(.int .i64 0)] []),[],(.some 49),[]⟩,p (.store 3) [(t 2),(t 49)],k (i 130) 3] LB4) .ret))))),[(2,(.some (3,true))),(3,.none)],50⟩
theorem sh95 : shade S 95 LB4 [] = some F95 := by kernel_rfl
def F105 : FC KT ElT := ⟨(.seq (.reg [q .box (a 1) 4,q .box (a 2) 5,k (c (.bool false)) 6] [0,4,5,6]) (.seq (.reg [q (.faddr 0) (a 4) 7,q (.load 1 false) (a 7) 8,q (.bin .eql .num) [(t 8),(i 0)] 9,m 9 10,g 10 false (.faddr 0) (a 5) 11,g 10 false (.load 1 false) (a 11) 12,g 10 false (.bin .eql .num) [(t 12),(i 0)] 13,q .pick [(t 10),(c (.bool true)),(t 13)] 14,m 14 15,g 15 false .mov (a 0) 16,g 15 false .nilck (a 16) 17,g 15 false (.faddr 1) (a 17) 18,g 15 false (.load 1 false) (a 18) 19,g 15 false (.load 3 true) (a 4) 20,g 15 false (.load 3 true) (a 5) 21,g 15 false (.call 128) [(t 19),(t 20),(t 21)] 22,q .pick [(t 15),(c (.bool true)),(t 22)] 23,m 23 6] [0,4,5,6]) .ret)),[(6,.none)],24⟩
theorem sh105 : shade S 105 [0,4,5,6] [] = some F105 := by kernel_rfl
def F106 : FC KT ElT := ⟨(.seq (.reg [q .box (a 1) 3] [0,3]) (.reg [m 0 4,m 0 5,q .nilck (a 5) 6,q (.faddr 0) (a 6) 7,q (.load 1 false) (a 7) 8,q (.load 3 true) (a 3) 9,⟨.none,(.mkrow .vt),(a 9),(.some 10),[0,5,6,7]⟩,⟨.none,(.append .vt),[(t 8),(t 10)],(.some 11),[0]⟩,q .nilck (a 4) 12,q (.faddr 0) (a 12) 13,p (.store 1) [(t 13),(t 11)]] [0,3])),[],14⟩
theorem sh106 : shade S 106 [0,3] [] = some F106 := by kernel_rfl
def F107 : FC KT ElT := ⟨(.seq (.reg [k (c .nils) 2] LB6) (.seq (.reg [m 0 4,q (.len false) (a 4) 5,q (.mkslice .grp) [(t 5),(t 5)] 6,m 6 3] LB6) (.seq (.reg [m 3 7,m 0 8,q (.copy .grp) [(t 7),(t 8)] 9] LB6) (.seq (.reg [m 3 10,m 10 2] LB6) .ret)))),[(2,.none)],11⟩
theorem sh107 : shade S 107 LB6 [] = some F107 := by kernel_rfl
def F108 : FC KT ElT := ⟨(.seq (.reg [k (c .nils) 2] LB6) (.seq (.reg [m 0 4,q (.len false) (a 4) 5,q (.mkslice .sub) [(t 5),(t 5)] 6,m 6 3] LB6) (.seq (.reg [m 3 7,m 0 8,q (.copy .sub) [(t 7),(t 8)] 9] LB6) (.seq (.reg [m 3 10,m 10 2] LB6) .ret)))),[(2,.none)],11⟩
theorem sh108 : shade S 108 LB6 [] = some F108 := by kernel_rfl
def F109 : FC KT ElT := ⟨(.seq (.reg [k (c .nils) 2] LB6) (.seq (.reg [m 0 4,q (.len false) (a 4) 5,q (.mkslice .int) [(t 5),(t 5)] 6,m 6 3] LB6) (.seq (.reg [m 3 7,m 0 8,q (.copy .int) [(t 7),(t 8)] 9] LB6) (.seq (.reg [m 3 10,m 10 2] LB6) .ret)))),[(2,.none)],11⟩
theorem sh109 : shade S 109 LB6 [] = some F109 := by kernel_rfl
def F110 : FC KT ElT := ⟨(.seq (.reg [k (c .nils) 2] LB6) (.seq (.reg [m 0 4,q (.len false) (a 4) 5,q (.mkslice .fld) [(t 5),(t 5)] 6,m 6 3] LB6) (.seq (.reg [m 3 7,m 0 8,q (.copy .fld) [(t 7),(t 8)] 9] LB6) (.seq (.reg [m 3 10,m 10 2] LB6) .ret)))),[(2,.none)],11⟩
theorem sh110 : shade S 110 LB6 [] = some F110 := by kernel_rfl
def F113 : FC KT ElT := ⟨(.reg [m 0 4,m 0 5,q .nilck (a 5) 6,q (.faddr 0) (a 6) 7,q (.load 1 false) (a 7) 8,m 1 9,m 1 10,q (.slice .vt false true true) [(t 8),(t 9),(t 10)] 11,q .nilck (a 4) 12,q (.faddr 0) (a 12) 13,p (.store 1) [(t 13),(t 11)]] []),[],14⟩
theorem sh113 : shade S 113 [] [] = some F113 := by kernel_rfl
def F145 : FC KT ElT := ⟨(.seq (.reg [k (c .nilp) 2] LB9) (.seq (.reg [m 0 3,q .nilck (a 3) 4,q (.faddr 0) (a 4) 5,q (.load 1 false) (a 5) 6,m 0 7,q .nilck (a 7) 8,q (.faddr 0) (a 8) 9,q (.load 1 false) (a 9) 10,q (.len false) (a 10) 11,q (.bin .sub .num) [(t 11),(i 1)] 12,q (.iaddr .vt) [(t 6),(t 12)] 13,m 13 2] LB9) .ret)),[(2,.none)],14⟩
theorem sh145 : shade S 145 LB9 [] = some F145 := by kernel_rfl
end Sh
end Go.Proofs.YtomdfaelgcefdaaGreatDoor
