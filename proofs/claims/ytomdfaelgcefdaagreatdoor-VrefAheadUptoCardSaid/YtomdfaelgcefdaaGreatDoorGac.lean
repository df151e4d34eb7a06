/- Sh6 Sh7 Sh8 Sh9 Sh10. -/
import Derived.Laws.StructEq
import Derived.Laws.Tables
import Derived.ChangeKeysEq
import Derived.Test.YtomdfaelgcefdaaGreatDoorGab
set_option maxRecDepth 100000
set_option maxHeartbeats 64000000
namespace Go.Proofs.YtomdfaelgcefdaaGreatDoor
open Go
namespace Sh
variable {K : Type} {El : K → Type} {S : Seat K El}
theorem castL_some {k k' : K} {xs : List (El k)} {ys : List (El k')} (h : castL S k k' xs = some ys) : ∃ e : k = k',e ▸ xs = ys := by
 unfold castL at h;split at h
 · rename_i e _; exact ⟨e,by simpa using h⟩
 · cases h
structure CellsOf (S : Seat K El) (E : Env) (w : World) (k : K) (ys : List (El k)) (cs : List Value) : Prop where
 len : cs.length = ys.length * S.size k
 get : ∀ (j : Nat) y,ys[j]? = some y → ∀ (t : Nat) u,(S.enc k y)[t]? = some u → ∃ c,cs[j * S.size k + t]? = some c ∧ VR S E w u c
section
variable (ok : Ok S) {E E' : Env} {H : Heap K El} {w w' : World} {k : K}
theorem CellsOf.nil : CellsOf S E w k [] [] := ⟨by simp,fun j y h => by simp at h⟩
include ok in
theorem CellsOf.mono {ys : List (El k)} {cs : List Value} (h : CellsOf S E w k ys cs) (hx : Ext E w E' w') : CellsOf S E' w' k ys cs :=
 ⟨h.len,fun j y hy t u hu => let ⟨c,h1,h2⟩ := h.get j y hy t u hu; ⟨c,h1,VR.mono ok hx h2⟩⟩
include ok in
theorem CellsOf.one {ys : List (El k)} {cs : List Value} (h : CellsOf S E w k ys cs) : ∀ c ∈ cs,c.oneCell' = true := by
 intro c hc;obtain ⟨m,hm⟩ := List.mem_iff_getElem?.1 hc;have hpos := ok.pos k;have hml : m < ys.length * S.size k := by rw [← h.len]; exact (List.getElem?_eq_some_iff.1 hm).1
 have hj : m / S.size k < ys.length := (Nat.div_lt_iff_lt_mul hpos).2 hml;have ht : m % S.size k < S.size k := Nat.mod_lt _ hpos;have htl : m % S.size k < (S.enc k ys[m / S.size k]).length := by rw [ok.enc_len]; exact ht
 obtain ⟨c',h1,h2⟩ := h.get (m / S.size k) _ (List.getElem?_eq_getElem hj) (m % S.size k) _ (List.getElem?_eq_getElem htl);rw [show m / S.size k * S.size k + m % S.size k = m by rw [Nat.mul_comm]; exact Nat.div_add_mod m _,hm] at h1;simp only [Option.some.injEq] at h1;subst h1;exact h2.oneCell (ok.one _ _ _ (List.getElem_mem htl))
include ok in
theorem CellsOf.append {ys zs : List (El k)} {cs ds : List Value} (h : CellsOf S E w k ys cs) (h' : CellsOf S E w k zs ds) : CellsOf S E w k (ys ++ zs) (cs ++ ds) where
 len := by simp [h.len,h'.len,Nat.add_mul]
 get j y hy t u hu := by
  have htl : t < S.size k := by rw [← ok.enc_len k y]; exact (List.getElem?_eq_some_iff.1 hu).1
  by_cases hj : j < ys.length
  · rw [List.getElem?_append_left hj] at hy;obtain ⟨c,h1,h2⟩ := h.get j y hy t u hu;exact ⟨c,by rw [List.getElem?_append_left (List.getElem?_eq_some_iff.1 h1).1]; exact h1,h2⟩
  · rw [List.getElem?_append_right (by omega)] at hy;obtain ⟨c,h1,h2⟩ := h'.get _ y hy t u hu;have hm : ys.length * S.size k ≤ j * S.size k := Nat.mul_le_mul_right _ (by omega);refine ⟨c,?_,h2⟩;rw [List.getElem?_append_right (by rw [h.len]; omega),h.len];rw [← h1]
    congr 1
    rw [Nat.sub_mul];omega
include ok in
theorem CellsOf.take {ys : List (El k)} {cs : List Value} (h : CellsOf S E w k ys cs) (n : Nat) : CellsOf S E w k (ys.take n) (cs.take (n * S.size k)) where
 len := by
  rw [List.length_take,h.len,List.length_take]
  rcases Nat.le_total n ys.length with hle | hle
  · have := Nat.mul_le_mul_right (S.size k) hle;rw [Nat.min_eq_left this,Nat.min_eq_left hle]
  · have := Nat.mul_le_mul_right (S.size k) hle;rw [Nat.min_eq_right this,Nat.min_eq_right hle]
 get j y hy t u hu := by
  have htl : t < S.size k := by rw [← ok.enc_len k y]; exact (List.getElem?_eq_some_iff.1 hu).1
  have hj : j < n := by have := (List.getElem?_eq_some_iff.1 hy).1; simp at this; omega
  rw [List.getElem?_take_of_lt hj] at hy;obtain ⟨c,h1,h2⟩ := h.get j y hy t u hu;have hm : (j + 1) * S.size k ≤ n * S.size k := Nat.mul_le_mul_right _ hj;rw [Nat.succ_mul] at hm;exact ⟨c,by rw [List.getElem?_take_of_lt (by omega)]; exact h1,h2⟩
theorem CellsOf.drop {ys : List (El k)} {cs : List Value} (h : CellsOf S E w k ys cs) (n : Nat) : CellsOf S E w k (ys.drop n) (cs.drop (n * S.size k)) where
 len := by rw [List.length_drop,h.len,List.length_drop,Nat.sub_mul]
 get j y hy t u hu := by
  rw [List.getElem?_drop] at hy;obtain ⟨c,h1,h2⟩ := h.get _ y hy t u hu;refine ⟨c,?_,h2⟩;rw [List.getElem?_drop,← h1,Nat.add_mul,Nat.add_assoc]
include ok in
theorem row_cells {xs : List (El k)} {b : Nat} (h : OR S E w (.row k xs) (.blk b)) : ∃ c,w.heap[b]? = some (.cells c (S.ty k) (0,0)) ∧ xs.length * S.size k ≤ c.size ∧ CellsOf S E w k xs (c.toList.take (xs.length * S.size k)) := by
 obtain ⟨c,h1,h2,h3⟩ := h;refine ⟨c,h1,h2,by simp; omega,fun j y hy t u hu => ?_⟩;obtain ⟨v,k1,k2⟩ := h3 j y hy t u hu;refine ⟨v,?_,k2⟩;have hj := (List.getElem?_eq_some_iff.1 hy).1
 by_cases hlt : j * S.size k + t < xs.length * S.size k
 · rw [List.getElem?_take_of_lt hlt]; simpa using k1
 · exfalso;have hm : (j + 1) * S.size k ≤ xs.length * S.size k := Nat.mul_le_mul_right _ hj;have ht := (List.getElem?_eq_some_iff.1 hu).1;rw [ok.enc_len] at ht;rw [Nat.succ_mul] at hm;omega
theorem row_of_cells {xs : List (El k)} {cs : List Value} (h : CellsOf S E w k xs cs) {b : Nat} {c : Array Value} (hb : w.heap[b]? = some (.cells c (S.ty k) (0,0))) (hc : c.toList.take (xs.length * S.size k) = cs) :
    OR S E w (.row k xs) (.blk b) := by
 have hl := h.len;rw [← hc] at hl;simp at hl;refine ⟨c,hb,by omega,fun j y hy t u hu => ?_⟩;obtain ⟨v,h1,h2⟩ := h.get j y hy t u hu;refine ⟨v,?_,h2⟩;rw [← hc] at h1;have hlt := (List.getElem?_eq_some_iff.1 h1).1;rw [List.getElem?_take_of_lt (by simp at hlt; omega)] at h1;simpa using h1
structure SliceOf (S : Seat K El) (E : Env) (w : World) (k : K) (ys : List (El k)) (v : Value) (cs : List Value) : Prop where
 cells : CellsOf S E w k ys cs
 val : ∃ A cap,v = .slice A ys.length cap ∧ ∀ (j : Nat) c,cs[j]? = some c → ∃ b o,A = some ⟨b,o,none⟩ ∧ w.cell? ⟨b,o + j,none⟩ = some c
include ok in
theorem arr_cells {xs : List (El k)} {b : Nat} (h : OR S E w (.arr k xs) (.blk b)) : ∃ c e,w.heap[b]? = some (.cells c e (0,0)) ∧ xs.length * S.size k ≤ c.size ∧ CellsOf S E w k xs (c.toList.take (xs.length * S.size k)) := by
 obtain ⟨c,e,h1,h2,h3⟩ := h;refine ⟨c,e,h1,by omega,by simp; omega,fun j y hy t u hu => ?_⟩;obtain ⟨v,k1,k2⟩ := h3 j y hy t u hu;refine ⟨v,?_,k2⟩;have hj := (List.getElem?_eq_some_iff.1 hy).1;have hm : (j + 1) * S.size k ≤ xs.length * S.size k := Nat.mul_le_mul_right _ hj;have ht := (List.getElem?_eq_some_iff.1 hu).1;rw [ok.enc_len] at ht;rw [Nat.succ_mul] at hm;rw [List.getElem?_take_of_lt (by omega)];simpa using k1
include ok in
theorem slice_cells {xs : List (El k)} {b o lo len cap : Nat} {cc : Array Value} {e : TypeId} (hb : w.heap[b]? = some (.cells cc e (0,0))) (hsz : xs.length * S.size k ≤ cc.size) (hcs : CellsOf S E w k xs (cc.toList.take (xs.length * S.size k)))
    (hlen : lo + len ≤ xs.length) (ho : o = lo * S.size k ∨ (lo ≠ 0 ∧ len = 0 ∧ cap = 0)) (cap' : Nat) : ∃ cs,SliceOf S E w k ((xs.drop lo).take len) (.slice (some ⟨b,o,none⟩) len cap') cs := by
 have hd := (hcs.drop lo).take ok len;refine ⟨_,hd,some ⟨b,o,none⟩,cap',?_,fun j c hj => ⟨b,o,rfl,?_⟩⟩
 · have : ((xs.drop lo).take len).length = len := by simp; omega
   simp only [this]
 · have hjl : j < len * S.size k := by have := (List.getElem?_eq_some_iff.1 hj).1; simp at this; omega
   have ho' : o = lo * S.size k := by
    rcases ho with ho | ⟨_,h0,_⟩
    · exact ho
    · rw [h0] at hjl; simp at hjl
   have hjl' := (List.getElem?_eq_some_iff.1 hj).1;rw [List.getElem?_take_of_lt hjl,List.getElem?_drop,List.getElem?_take_of_lt (by simp at hjl'; omega)] at hj;simp only [World.cell?,hb,ho'];simpa using hj
include ok in
theorem content_sound (h : Emb S E H w) {s : AV K El} {kt : List (El k) → Prop} (hr : content S H k s kt) {v : Value} (hv : VR S E w s v) : ∃ ys cs,kt ys ∧ SliceOf S E w k ys v cs := by
 cases hv with
 | nils => exact ⟨[],[],hr,.nil,none,0,rfl,fun j c h => by simp at h⟩
 | immNil A cap hm =>
  simp only [content] at hr;split at hr
  · rename_i ys hy;obtain ⟨rfl,rfl⟩ := castL_some hy;exact ⟨[],[],hr,.nil,A,cap,rfl,fun j c h => by simp at h⟩
  · exact hr.elim
 | imm b o cap cs hs hle hm hc hv =>
  rename_i k' xs;simp only [content] at hr;split at hr
  · rename_i ys hy;obtain ⟨rfl,rfl⟩ := castL_some hy;refine ⟨xs,(List.range (xs.length * S.size k')).map cs,hr,⟨by simp,fun j y hy t u hu => ?_⟩,some ⟨b,o,none⟩,cap,rfl,fun j c hj => ?_⟩
    · refine ⟨_,?_,hv j y t u hy hu⟩;have hj := (List.getElem?_eq_some_iff.1 hy).1;have ht := (List.getElem?_eq_some_iff.1 hu).1;rw [ok.enc_len] at ht;have hm : (j + 1) * S.size k' ≤ xs.length * S.size k' := Nat.mul_le_mul_right _ hj;rw [Nat.succ_mul] at hm;have hlt : j * S.size k' + t < xs.length * S.size k' := by omega
      simp [hlt]
    · have hlt : j < xs.length * S.size k' := by have := (List.getElem?_eq_some_iff.1 hj).1; simpa using this
      simp [hlt] at hj;subst hj;exact ⟨b,o,rfl,hc j hlt⟩
  · exact hr.elim
 | ownNil hi =>
  rename_i k' i c;simp only [content] at hr;split at hr
  · rename_i kr xs hx;obtain ⟨rfl,hle,hr⟩ := hr;split at hr
    · rename_i ys hy;obtain ⟨rfl,rfl⟩ := castL_some hy;exact ⟨_,[],hr,by simpa using CellsOf.nil,none,0,by simp,fun j c h => by simp at h⟩
    · exact hr.elim
  · rename_i kr xs hx; exact (h.obj i _ _ hx hi : OR S E w (.arr kr xs) .nil).elim
  · exact hr.elim
 | ownGone hi _ =>
  rename_i k' i lo len c _;simp only [content] at hr;split at hr
  · rename_i kr xs hx; exact (h.obj i _ _ hx hi : OR S E w (.row kr xs) .gone).elim
  · rename_i kr xs hx; exact (h.obj i _ _ hx hi : OR S E w (.arr kr xs) .gone).elim
  · exact hr.elim
 | own hi hf hw hle hm ho =>
  rename_i k' i lo len c b o cap;simp only [content] at hr;split at hr
  · rename_i kr xs hx;obtain ⟨rfl,hlen,hr⟩ := hr;split at hr
    · rename_i ys hy;obtain ⟨rfl,rfl⟩ := castL_some hy;obtain ⟨cc,hb,hsz,hcs⟩ := row_cells ok (h.obj i _ _ hx hi);obtain ⟨cs,hs⟩ := slice_cells ok hb hsz hcs hlen ho cap;exact ⟨_,cs,hr,hs⟩
    · exact hr.elim
  · rename_i kr xs hx;obtain ⟨rfl,hlen,hr⟩ := hr;split at hr
    · rename_i ys hy;obtain ⟨rfl,rfl⟩ := castL_some hy;obtain ⟨cc,e,hb,hsz,hcs⟩ := arr_cells ok (h.obj i _ _ hx hi);obtain ⟨cs,hs⟩ := slice_cells ok hb hsz hcs hlen ho cap;exact ⟨_,cs,hr,hs⟩
    · exact hr.elim
  · exact hr.elim
 | _ => exact hr.elim
include ok in
theorem app_new (h : Emb S E H w) {zs : List (El k)} {cs : List Value} (hc : CellsOf S E w k zs cs) {rest : Array Value} {cap : Nat} (hcap : zs.length ≤ cap) (hm : cap ≤ maxLen)
    (hsz : (cs.toArray ++ rest).size = cap * S.size k) {w1 : World} (hh : w1.heap = w.heap.push (.cells (cs.toArray ++ rest) (S.ty k))) (ht : w1.tape = w.tape) (hos : w1.os = w.os) (hout : w1.output = w.output) :
    ∃ E1,Emb S E1 (H ++ [.row k zs]) w1 ∧ Ext E w E1 w1 ∧ VR S E1 w1 (.own k H.length 0 zs.length .whole) (.slice (some ⟨w.heap.size,0,none⟩) zs.length cap) := by
 have hx : Ext E w ⟨E.ρ ++ [.blk w.heap.size],E.F⟩ w1 := ext_push hh ht hos hout;have hb : w1.heap[w.heap.size]? = some (.cells (cs.toArray ++ rest) (S.ty k)) := by rw [hh]; simp
 refine ⟨_,emb_push ok h hh ht hos hout (row_of_cells (hc.mono ok hx) hb ?_),hx,?_⟩
 · rw [← hc.len]; simp
 · refine .own ?_ (by simp) (fun _ => ⟨S.ty k,?_⟩) hcap hm (.inl (by simp))
   · simp only []; rw [← h.len]; simp
   · simp only [World.shape?,hb,hsz]; simp
theorem ext_of_eq {w1 : World} (hh : w1.heap = w.heap) (ht : w1.tape = w.tape) (hos : w1.os = w.os) (hout : w1.output = w.output) : Ext E w E w1 where
 size := by rw [hh]; exact Nat.le_refl _
 keep b _ _ := by rw [hh]
 shape b s h := by simp only [World.shape?] at h ⊢; rw [hh]; exact h
 mono i l hl := .inl hl
 fresh i b hi := .inl ⟨i,hi⟩
 F := rfl
 os := hos
 tape := ht
 output := hout
def Env.mv (E : Env) (i : Nat) (l : Loc) : Env := ⟨E.ρ.set i .gone ++ [l],E.F⟩
include ok in
theorem emb_mv (h : Emb S E H w) {i : Nat} {l : Loc} {o : AO K El} (hi : E.ρ[i]? = some l) (ho : H[i]? = some o) : Emb S (E.mv i l) (H.set i .gone ++ [o]) w ∧ Ext E w (E.mv i l) w := by
 have hil : i < E.ρ.length := (List.getElem?_eq_some_iff.1 hi).1
 have split : ∀ (j : Nat) (l' : Loc),(E.mv i l).ρ[j]? = some l' → (j ≠ i ∧ j < E.ρ.length ∧ E.ρ[j]? = some l') ∨ (j = i ∧ l' = .gone) ∨ (j = E.ρ.length ∧ l' = l) := by
  intro j l' hj;simp only [Env.mv] at hj
  rcases Nat.lt_or_ge j E.ρ.length with hlt | hge
  · rw [List.getElem?_append_left (by simpa using hlt)] at hj
    rcases drop_at (E := E) (i := i) (j := j) (l := l') hj with ⟨h1,h2⟩ | ⟨h1,h2⟩
    · exact .inl ⟨h1,hlt,h2⟩
    · exact .inr (.inl ⟨h1,h2⟩)
  · rw [List.getElem?_append_right (by simpa using hge)] at hj;simp only [List.length_set] at hj
    cases hq : j - E.ρ.length with
    | zero => rw [hq] at hj; simp at hj; exact .inr (.inr ⟨by omega,hj.symm⟩)
    | succ n => rw [hq] at hj; simp at hj
 have hx : Ext E w (E.mv i l) w := by
  refine ⟨Nat.le_refl _,fun _ _ _ => rfl,fun _ _ h => h,fun j l' hl => ?_,fun j b hj => ?_,rfl,rfl,rfl,rfl⟩
  · have hjl := (List.getElem?_eq_some_iff.1 hl).1;simp only [Env.mv];rw [List.getElem?_append_left (by simpa using hjl)]
    by_cases hj : i = j
    · subst hj; exact .inr (by rw [List.getElem?_set_self hjl])
    · exact .inl (by rw [List.getElem?_set_ne hj]; exact hl)
  · rcases split j _ hj with ⟨_,_,h3⟩ | ⟨_,h2⟩ | ⟨_,h2⟩
    · exact .inl ⟨j,h3⟩
    · cases h2
    · exact .inl ⟨i,h2 ▸ hi⟩
 refine ⟨⟨by simp [Env.mv,h.len],fun j o' l' ho' hj => ?_,fun j j' b hj hj' => ?_,fun j b hj => ?_,fun b hF => ⟨(h.F b hF).1,fun j hj => ?_⟩,h.gl.ext ok hx⟩,hx⟩
 · rcases split j l' hj with ⟨h1,h2,h3⟩ | ⟨rfl,rfl⟩ | ⟨rfl,rfl⟩
   · rw [List.getElem?_append_left (by rw [List.length_set,← h.len]; exact h2),List.getElem?_set_ne (fun e => h1 e.symm)] at ho';exact OR.mono ok hx (fun _ _ => rfl) (h.obj j o' l' ho' h3)
   · rw [List.getElem?_append_left (by rw [List.length_set,← h.len]; exact hil),List.getElem?_set_self (by rw [← h.len]; exact hil)] at ho';simp only [Option.some.injEq] at ho';subst ho';trivial
   · rw [h.len,List.getElem?_append_right (by simp)] at ho';simp at ho';subst ho';exact OR.mono ok hx (fun _ _ => rfl) (h.obj i _ _ ho hi)
 · rcases split j _ hj with ⟨_,a2,a3⟩ | ⟨_,a2⟩ | ⟨a1,a2⟩ <;> rcases split j' _ hj' with ⟨_,b2,b3⟩ | ⟨_,b2⟩ | ⟨b1,b2⟩
   · exact h.inj j j' b a3 b3
   · cases b2
   · have := h.inj j i b a3 (b2 ▸ hi); omega
   · cases a2
   · cases a2
   · cases a2
   · have := h.inj j' i b b3 (a2 ▸ hi); omega
   · cases b2
   · omega
 · rcases split j _ hj with ⟨_,_,a3⟩ | ⟨_,a2⟩ | ⟨_,a2⟩
   · exact h.lt j b a3
   · cases a2
   · exact h.lt i b (a2 ▸ hi)
 · rcases split j _ hj with ⟨_,_,a3⟩ | ⟨_,a2⟩ | ⟨_,a2⟩
   · exact (h.F b hF).2 j a3
   · cases a2
   · exact (h.F b hF).2 i (a2 ▸ hi)
end
end Sh
end Go.Proofs.YtomdfaelgcefdaaGreatDoor
namespace Go.Proofs.YtomdfaelgcefdaaGreatDoor
open Go
namespace Sh
variable {K : Type} {El : K → Type} {S : Seat K El}
section
variable (ok : Ok S) {E E' : Env} {H : Heap K El} {w w' : World} {k : K}
theorem fits_maxLen {n : Nat} (h : fits S k n) : (n : Int) ≤ 9223372036854775807 := by
 have := h.1; simp only [maxLen] at this; omega
theorem size_grown (cs : List Value) (z : Array Value) (n cap sz : Nat) (hz : z.size = sz) (hl : cs.length = n * sz) (hc : n ≤ cap) :
    (cs.toArray ++ Builtin.zeroCells z (cap - n)).size = cap * sz := by
 simp [Builtin.zeroCells,hz,hl,← Nat.add_mul]
 congr 1; omega
structure SrcOf (S : Seat K El) (E : Env) (w : World) (k : K) (ys : List (El k)) (u : TypeId) (v : Value) (cs : List Value) : Prop where
 cells : CellsOf S E w k ys cs
 typ : (∃ e,S.P.underlying u = some (.slice e)) ∨ S.P.underlying u = some .string
 len : ∀ W,(Builtin.lenOf v).run S.P W = .ok ys.length W
 fc : ∀ W : World,W.heap = w.heap → (Builtin.firstCells (S.size k) ys.length v).run S.P W = .ok cs.toArray W
include ok in
theorem SrcOf.monoE {ys : List (El k)} {u : TypeId} {v : Value} {cs : List Value} (hs : SrcOf S E w k ys u v cs) (hx : Ext E w E' w) : SrcOf S E' w k ys u v cs :=
 ⟨hs.cells.mono ok hx,hs.typ,hs.len,hs.fc⟩
include ok in
theorem SliceOf.src {ys : List (El k)} {v : Value} {cs : List Value} {t e : TypeId} (ht : S.P.underlying t = some (.slice e)) (hs : SliceOf S E w k ys v cs) : SrcOf S E w k ys t v cs := by
 obtain ⟨A,cap,rfl,hcells⟩ := hs.val;refine ⟨hs.cells,.inl ⟨e,ht⟩,fun W => by simp [Builtin.lenOf],fun W hW => ?_⟩;have hpos := ok.pos k
 by_cases h0 : ys = []
 · subst h0;have hcs : cs = [] := List.eq_nil_of_length_eq_zero (by rw [hs.cells.len]; simp);subst hcs;cases A <;> simp [Builtin.firstCells,loadCells,loadCellsFrom]
 · have hl : 0 < ys.length := List.length_pos_iff.2 h0;have hcl : 0 < cs.length := by rw [hs.cells.len]; exact Nat.mul_pos hl hpos
   obtain ⟨b,o,rfl,_⟩ := hcells 0 cs[0] (List.getElem?_eq_getElem hcl)
   exact run_firstCells_some (P := S.P) W (S.size k) ys.length ⟨b,o,none⟩ ys.length cap cs (by rw [hs.cells.len]) (fun j c hj => by
    obtain ⟨b',o',he,hc⟩ := hcells j c hj;simp only [Option.some.injEq,Addr.mk.injEq] at he;obtain ⟨rfl,rfl,_⟩ := he;rw [add_lit]
    simpa [World.cell?,hW] using hc)
theorem run_app_room {P : Program} {w : World} {t u ty e : TypeId} {i : TypeInfo} (ht : P.underlying t = some (.slice e)) (hu : (∃ e,P.underlying u = some (.slice e)) ∨ P.underlying u = some .string) (hi : P.info? e = some i) {v : Value} {n : Nat} {cs : List Value}
    (hlen : (Builtin.lenOf v).run P w = .ok n w) (hfc : (Builtin.firstCells i.size n v).run P w = .ok cs.toArray w) (base : Option Addr) {sLen sCap : Nat} (hroom : sLen + n ≤ sCap) {w' : World}
    (hst : match base with | some a => (storeCells (a.add (sLen * i.size)) cs).run P w = .ok () w' | none => w' = w) :
    (Builtin.append_ #[t,u] ty #[.slice base sLen sCap,v]).run P w = .ok (.slice base (sLen + n) sCap) w' := by
 rcases hu with ⟨e',hu⟩ | hu <;> cases base <;> simp only at hst <;>
  first
  | (subst hst; simp [Builtin.append_,run_underlying ht,run_underlying hu,sizeOf,typeInfo,hi,hlen,hfc,hroom])
  | simp [Builtin.append_,run_underlying ht,run_underlying hu,sizeOf,typeInfo,hi,hlen,hfc,hroom,hst]
theorem run_app_grow {P : Program} {w : World} {t u ty e : TypeId} {i : TypeInfo} {z : Value} (ht : P.underlying t = some (.slice e)) (hu : (∃ e,P.underlying u = some (.slice e)) ∨ P.underlying u = some .string) (hi : P.info? e = some i) (hz : i.zero = some z) {v : Value} {n : Nat} {cs ds : List Value}
    (hlen : (Builtin.lenOf v).run P w = .ok n w) (hfc : (Builtin.firstCells i.size n v).run P w.drew = .ok cs.toArray w.drew) {base : Option Addr} {sLen sCap : Nat} (hfo : (Builtin.firstCells i.size sLen (.slice base sLen sCap)).run P w.drew = .ok ds.toArray w.drew)
    (hg : sCap < sLen + n) (h63 : ((sLen + n : Nat) : Int) ≤ 9223372036854775807) (hfit : Builtin.nextslicecap (sLen + n) sCap * i.bytes ≤ 281474976710656) :
    (Builtin.append_ #[t,u] ty #[.slice base sLen sCap,v]).run P w = .ok (.slice (some ⟨w.heap.size,0,none⟩) (sLen + n) (grownCap w (sLen + n) sCap e))
        (w.drew.alloc (.cells ((ds ++ cs).toArray ++ Builtin.zeroCells z.cells (grownCap w (sLen + n) sCap e - (sLen + n))) e)) := by
 have hn : ¬ (sLen + n ≤ sCap) := by omega
 have h63' : ¬ (9223372036854775807 < ((sLen : Int) + (n : Int))) := by omega
 have h48' : ¬ (281474976710656 < Builtin.nextslicecap (sLen + n) sCap * i.bytes) := by omega
 rcases hu with ⟨e',hu⟩ | hu
 all_goals
  simp [Builtin.append_,run_underlying ht,run_underlying hu,sizeOf,typeInfo,zeroValue,hi,hz,hlen,hn,h63',h48',Question.forced,hfc,hfo,newRow,grownCap]
  congr 2
  apply Array.ext';simp [List.append_assoc]
include ok in
theorem app_nil (h : Emb S E H w) {t u ty : TypeId} (ht : S.P.underlying t = some (.slice (S.ty k))) {ys : List (El k)} {v : Value} {cs : List Value} (hs : SrcOf S E w k ys u v cs) (hf : fits S k ys.length) :
    ∃ E1 w1 r,(Builtin.append_ #[t,u] ty #[.slice none 0 0,v]).run S.P w = .ok r w1 ∧ Emb S E1 (H ++ [.row k ys]) w1 ∧ Ext E w E1 w1 ∧ VR S E1 w1 (.own k H.length 0 ys.length .whole) r := by
 obtain ⟨i,z,hi,hsz,hz,hzs,hby,hzz⟩ := ok.info k;have hpos := ok.pos k;have hlen := hs.len;have hfc := hs.fc
 by_cases h0 : ys = []
 · subst h0;have hcs : cs = [] := List.eq_nil_of_length_eq_zero (by rw [hs.cells.len]; simp);subst hcs;exact ⟨⟨E.ρ ++ [.nil],E.F⟩,w,.slice none 0 0,run_app_room ht hs.typ hi (hlen w) (by rw [hsz]; exact hfc w rfl) none (Nat.le_refl _) rfl,emb_nil ok h k,ext_nil rfl rfl rfl rfl,.ownNil (by simp only []; rw [← h.len]; simp)⟩
 · have hl : 0 < ys.length := List.length_pos_iff.2 h0
   have hr := run_app_grow (P := S.P) (w := w) (ty := ty) ht hs.typ hi hz (ds := []) (hlen w) (by rw [hsz]; exact hfc w.drew rfl) (base := none) (sLen := 0) (sCap := 0) (by simp [Builtin.firstCells]) (by omega)
    (by rw [Nat.zero_add]; exact fits_maxLen hf) (by rw [hby,Nat.zero_add]; exact growslice_fits (by omega) (by have := hf.2; omega))
   have hge := grownCap_ge w ys.length 0 (S.ty k)
   obtain ⟨E1,h1,h2,h3⟩ := app_new ok h hs.cells (rest := Builtin.zeroCells z.cells (grownCap w ys.length 0 (S.ty k) - ys.length)) hge (grownCap_le_maxLen w _ _ _ hf.1)
    (size_grown cs z.cells _ _ _ hzs hs.cells.len hge) (w1 := w.drew.alloc (.cells (cs.toArray ++ Builtin.zeroCells z.cells (grownCap w ys.length 0 (S.ty k) - ys.length)) (S.ty k))) rfl rfl rfl rfl
   simp only [Nat.zero_add,List.nil_append] at hr;exact ⟨E1,_,_,hr,h1,h2,h3⟩
include ok in
theorem app_grow (h : Emb S E H w) {t u ty : TypeId} (ht : S.P.underlying t = some (.slice (S.ty k))) {zs ys : List (El k)} {v : Value} {cs ds : List Value} {b o cap : Nat}
    (hd : CellsOf S E w k zs ds) (hda : ∀ (j : Nat) c,ds[j]? = some c → w.cell? ⟨b,o + j,none⟩ = some c) (hs : SrcOf S E w k ys u v cs) (hf : fits S k (zs.length + ys.length)) (hg : cap < zs.length + ys.length) :
    ∃ E1 w1 r,(Builtin.append_ #[t,u] ty #[.slice (some ⟨b,o,none⟩) zs.length cap,v]).run S.P w = .ok r w1 ∧ Emb S E1 (H ++ [.row k (zs ++ ys)]) w1 ∧ Ext E w E1 w1 ∧ VR S E1 w1 (.own k H.length 0 (zs.length + ys.length) .whole) r := by
 obtain ⟨i,z,hi,hsz,hz,hzs,hby,hzz⟩ := ok.info k;have hpos := ok.pos k;have hge := grownCap_ge w (zs.length + ys.length) cap (S.ty k);have hfit := growslice_fits hg (show (zs.length + ys.length) * i.bytes ≤ 140737488355328 by rw [hby]; exact hf.2);have hall := hd.append ok hs.cells;have hfo := run_firstCells_some (P := S.P) w.drew i.size zs.length ⟨b,o,none⟩ zs.length cap ds (by rw [hd.len,hsz]) (fun j c hj => by rw [add_lit]; simpa using hda j c hj);have hrun := run_app_grow (P := S.P) (w := w) (ty := ty) ht hs.typ hi hz (hs.len w) (by rw [hsz]; exact hs.fc w.drew rfl) hfo hg (fits_maxLen hf) hfit
 obtain ⟨E1,h1,h2,h3⟩ := app_new ok h hall (rest := Builtin.zeroCells z.cells (grownCap w (zs.length + ys.length) cap (S.ty k) - (zs.length + ys.length))) (by rw [List.length_append]; exact hge) (grownCap_le_maxLen w _ _ _ hf.1)
  (size_grown (ds ++ cs) z.cells _ _ _ hzs (by rw [List.length_append,hd.len,hs.cells.len,← Nat.add_mul]) hge) (w1 := w.drew.alloc (.cells ((ds ++ cs).toArray ++ Builtin.zeroCells z.cells (grownCap w (zs.length + ys.length) cap (S.ty k) - (zs.length + ys.length))) (S.ty k))) rfl rfl rfl rfl
 rw [List.length_append] at h3;exact ⟨E1,_,_,hrun,h1,h2,h3⟩
include ok in
theorem app_sound (h : Emb S E H w) {t u ty : TypeId} (ht : S.P.underlying t = some (.slice (S.ty k))) {s : AV K El} {ys : List (El k)} {kt : AV K El → Heap K El → Prop} (ha : app S H k s ys kt)
    {v : Value} {cs : List Value} (hs : SrcOf S E w k ys u v cs) {sv : Value} (hsv : VR S E w s sv) :
    ∃ r H1 E1 w1 rv,kt r H1 ∧ (Builtin.append_ #[t,u] ty #[sv,v]).run S.P w = .ok rv w1 ∧ Emb S E1 H1 w1 ∧ Ext E w E1 w1 ∧ VR S E1 w1 r rv := by
 have hpos := ok.pos k
 cases hsv with
 | nils =>
  obtain ⟨hf,hk⟩ := ha;obtain ⟨E1,w1,r,h1,h2,h3,h4⟩ := app_nil ok h ht (ty := ty) hs hf;exact ⟨_,_,E1,w1,r,hk,h1,h2,h3,h4⟩
 | ownGone hi _ =>
  rename_i k' i lo len c _;simp only [app] at ha;split at ha
  · rename_i kr xs hx; exact (h.obj i _ _ hx hi : OR S E w (.row kr xs) .gone).elim
  · exact ha.elim
 | ownNil hi =>
  rename_i k' i c;simp only [app] at ha;split at ha
  · rename_i kr xs hx;split at ha
    · rename_i xs' hy;obtain ⟨rfl,rfl⟩ := castL_some hy;obtain ⟨rfl,hle,hf,ha⟩ := ha;have hxe : xs = [] := h.obj i _ _ hx hi;subst hxe;simp only [Nat.zero_add] at hf
      cases c with
      | whole =>
       obtain ⟨_,hk⟩ := ha;have hdr := emb_drop ok h i;have hxd := ext_drop (E := E) (w := w) i;obtain ⟨E1,w1,r,h1,h2,h3,h4⟩ := app_nil ok hdr ht (ty := ty) (hs.monoE ok hxd) hf;refine ⟨_,_,E1,w1,r,hk,h1,by simpa using h2,hxd.trans h3,by simpa using h4⟩
      | full =>
       obtain ⟨_,hk⟩ := ha;obtain ⟨E1,w1,r,h1,h2,h3,h4⟩ := app_nil ok h ht (ty := ty) hs hf;exact ⟨_,_,E1,w1,r,hk,h1,by simpa using h2,h3,by simpa using h4⟩
      | unk => exact ha.elim
    · exact ha.elim
  · exact ha.elim
 | own hi hfu hw hle hm ho =>
  rename_i k' i lo len c b o cap;simp only [app] at ha;split at ha
  · rename_i kr xs hx;split at ha
    · rename_i xs' hy;obtain ⟨rfl,rfl⟩ := castL_some hy;obtain ⟨rfl,hlen,hf,ha⟩ := ha
      replace hlen : lo + len ≤ xs.length := hlen
      obtain ⟨cc,hb,hsz,hcs⟩ := row_cells ok (h.obj i _ _ hx hi);have hbl : b < w.heap.size := h.lt i b hi
      cases c with
      | unk => exact ha.elim
      | full =>
       obtain ⟨hne,hk⟩ := ha;have hcap := hfu rfl;have hd := (hcs.drop lo).take ok len;have hl : ((xs.drop lo).take len).length = len := by simp; omega
       have hyl : 0 < ys.length := List.length_pos_iff.2 hne
       obtain ⟨E1,w1,r,h1,h2,h3,h4⟩ := app_grow ok h ht (ty := ty) (b := b) (o := o) (cap := cap) hd (fun j c hj => by
        have hjl : j < len * S.size kr := by have := (List.getElem?_eq_some_iff.1 hj).1; simp at this; omega
        have ho' : o = lo * S.size kr := by
         rcases ho with ho | ⟨_,h0,_⟩
         · exact ho
         · rw [h0] at hjl; simp at hjl
        have hjl' := (List.getElem?_eq_some_iff.1 hj).1;rw [List.getElem?_take_of_lt hjl,List.getElem?_drop,List.getElem?_take_of_lt (by simp at hjl'; omega)] at hj;simp only [World.cell?,hb,ho']
        simpa using hj) hs (by rw [hl]; exact hf) (by rw [hl]; omega)
       rw [hl] at h1 h4;exact ⟨_,_,E1,w1,r,hk,h1,h2,h3,h4⟩
      | whole =>
       obtain ⟨hlo,hk⟩ := ha;subst hlo
       have ho' : o = 0 := by
        rcases ho with ho | ⟨h0,_⟩
        · simpa using ho
        · exact absurd rfl h0
       subst ho';obtain ⟨e,he⟩ := hw rfl
       have hcsz : cc.size = cap * S.size kr := by
        simp only [World.shape?,hb,Option.some.injEq,Prod.mk.injEq] at he;simpa using he.2
       obtain ⟨ti,z,hti,htsz,hz,hzs,hby,hzz⟩ := ok.info kr;have hd := hcs.take ok len;have htl : (xs.take len).length = len := by simp; omega
       have hmul : len * S.size kr ≤ xs.length * S.size kr := Nat.mul_le_mul_right _ (by omega)
       by_cases hroom : len + ys.length ≤ cap
       ·
        have hyc : cs.length = ys.length * S.size kr := hs.cells.len;have hfit : len * S.size kr + cs.length ≤ cc.size := by rw [hyc,← Nat.add_mul,hcsz]; exact Nat.mul_le_mul_right _ hroom
        have hfit' : len * S.size kr + ys.length * S.size kr ≤ cc.size := by rw [← hyc]; exact hfit
        have hst := run_storeCells_at S.P b (len * S.size kr) (S.ty kr) cs 0 cc w hb (by simpa using hfit) (hs.cells.one ok)
        have hrun : (Builtin.append_ #[t,u] ty #[.slice (some ⟨b,0,none⟩) len cap,v]).run S.P w =
            .ok (.slice (some ⟨b,0,none⟩) (len + ys.length) cap) (w.setRow b (cc.toList.take (len * S.size kr) ++ cs ++ cc.toList.drop (len * S.size kr + cs.length)).toArray) :=
         run_app_room ht hs.typ hti (hs.len w) (by rw [htsz]; exact hs.fc w rfl) (some ⟨b,0,none⟩) hroom (by
          simp only [htsz,add_lit]
          simpa using hst)
        generalize hnew : (cc.toList.take (len * S.size kr) ++ cs ++ cc.toList.drop (len * S.size kr + cs.length)).toArray = cc' at hrun;have hs' : cc'.size = cc.size := by rw [← hnew]; simp; omega
        have hxt := ext_setRow (E := E) hi hb hs'
        have hall : CellsOf S E (w.setRow b cc') kr (xs.take len ++ ys) (cc.toList.take (len * S.size kr) ++ cs) := by
         have h1 := (hd.append ok hs.cells).mono ok hxt
         rwa [List.take_take,Nat.min_eq_left hmul] at h1
        have hemb := emb_setRow ok h hi hb hs' (o := .row kr (xs.take len ++ ys)) (row_of_cells hall (setRow_heap w b cc cc' _ _ hb) (by
         rw [← hnew];simp only [List.length_append,htl,Nat.add_mul];rw [← hyc];have hlt : (cc.toList.take (len * S.size kr) ++ cs).length = len * S.size kr + cs.length := by simp; omega
         rw [← hlt]
         exact List.take_left ..))
        have hil : i < H.length := (List.getElem?_eq_some_iff.1 hx).1;obtain ⟨hm1,hm2⟩ := emb_mv ok hemb hi (List.getElem?_set_self hil);refine ⟨_,_,_,_,_,hk,hrun,?_,hxt.trans hm2,?_⟩
        · simpa using hm1
        · refine .own (b := b) ?_ (by simp) (fun _ => ⟨S.ty kr,?_⟩) hroom hm (.inl (by simp))
          · simp only [Env.mv];rw [← h.len,List.getElem?_append_right (by simp)];simp
          · simp only [World.shape?,setRow_heap w b cc cc' _ _ hb,hs',hcsz]; simp
       ·
        have hdr := emb_drop ok h i;have hxd := ext_drop (E := E) (w := w) i
        obtain ⟨E1,w1,r,h1,h2,h3,h4⟩ := app_grow ok hdr ht (ty := ty) (b := b) (o := 0) (cap := cap) (hd.mono ok hxd) (fun j c hj => by
         have hjl : j < len * S.size kr := by have := (List.getElem?_eq_some_iff.1 hj).1; simp at this; omega
         rw [List.getElem?_take_of_lt hjl,List.getElem?_take_of_lt (by omega)] at hj;simp only [World.cell?,hb]
         simpa using hj) (hs.monoE ok hxd) (by rw [htl]; exact hf) (by rw [htl]; omega)
        rw [htl] at h1 h4;refine ⟨_,_,E1,w1,r,hk,h1,h2,hxd.trans h3,by simpa using h4⟩
    · exact ha.elim
  · exact ha.elim
 | _ => exact ha.elim
end
end Sh
end Go.Proofs.YtomdfaelgcefdaaGreatDoor
namespace Go.Proofs.YtomdfaelgcefdaaGreatDoor
open Go
namespace Sh
variable {K : Type} {El : K → Type} {S : Seat K El}
section
variable (ok : Ok S) {E E' : Env} {H : Heap K El} {w w' : World} {k : K}
include ok in
theorem cpy_sound (h : Emb S E H w) {dT sT ty : TypeId} (ht : S.P.underlying dT = some (.slice (S.ty k))) {d : AV K El} {ys : List (El k)} {kt : AV K El → Heap K El → Prop} (ha : cpy S H k d ys kt)
    {v : Value} {cs : List Value} (hs : SliceOf S E w k ys v cs) {dv : Value} (hdv : VR S E w d dv) :
    ∃ r H1 w1 rv,kt r H1 ∧ (Builtin.copy_ #[dT,sT] ty #[dv,v]).run S.P w = .ok rv w1 ∧ Emb S E H1 w1 ∧ Ext E w E w1 ∧ VR S E w1 r rv := by
 obtain ⟨A,xcap,rfl,hcells⟩ := hs.val;obtain ⟨ti,z,hti,htsz,hz,hzs,hby,hzz⟩ := ok.info k;have hpos := ok.pos k
 have hfirst : ∀ n,n ≤ ys.length → (Builtin.firstCells (S.size k) n (.slice A ys.length xcap)).run S.P w = .ok (cs.take (n * S.size k)).toArray w := by
  intro n hn
  by_cases h0 : n = 0
  · subst h0;cases A <;> simp [Builtin.firstCells,loadCells,loadCellsFrom]
  · have hcl : 0 < cs.length := by rw [hs.cells.len]; exact Nat.mul_pos (by omega) hpos
    obtain ⟨b',o',rfl,_⟩ := hcells 0 cs[0] (List.getElem?_eq_getElem hcl);have hmul : n * S.size k ≤ ys.length * S.size k := Nat.mul_le_mul_right _ hn
    exact run_firstCells_some (P := S.P) w (S.size k) n ⟨b',o',none⟩ ys.length xcap (cs.take (n * S.size k)) (by rw [List.length_take,hs.cells.len]; omega) (fun j c hj => by
     have hjl := (List.getElem?_eq_some_iff.1 hj).1;rw [List.getElem?_take_of_lt (by simp at hjl; omega)] at hj;obtain ⟨b2,o2,he,hc⟩ := hcells j c hj;simp only [Option.some.injEq,Addr.mk.injEq] at he;obtain ⟨rfl,rfl,_⟩ := he
     rw [add_lit]; exact hc)
 cases hdv with
 | nils =>
  refine ⟨_,H,w,goInt 0,ha,?_,h,Ext.refl,.int _ _⟩;have := hfirst 0 (Nat.zero_le _);simp at this;simp [Builtin.copy_,run_underlying ht,Builtin.lenOf,sizeOf,typeInfo,hti,htsz,this]
 | ownNil hi =>
  rename_i k' i c;simp only [cpy] at ha;split at ha
  · rename_i kr xs hx;split at ha
    · rename_i xs' hy;obtain ⟨rfl,rfl⟩ := castL_some hy;obtain ⟨rfl,hle,hk⟩ := ha;have hxe : xs = [] := h.obj i _ _ hx hi;subst hxe
      have hH : H.set i (.row kr ([].take 0 ++ ys.take 0 ++ [].drop (0 + min ys.length 0))) = H := by
       simp only [List.take_zero,List.drop_nil,List.append_nil]
       exact List.ext_getElem? fun j => by
        by_cases hj : i = j
        · subst hj; rw [List.getElem?_set_self (List.getElem?_eq_some_iff.1 hx).1,hx]
        · rw [List.getElem?_set_ne hj]
      refine ⟨_,H.set i (.row kr ([].take 0 ++ ys.take 0 ++ [].drop (0 + min ys.length 0))),w,goInt 0,hk,?_,?_,Ext.refl,by simpa [goInt] using VR.int _ _⟩
      · have := hfirst 0 (Nat.zero_le _);simp at this;simp [Builtin.copy_,run_underlying ht,Builtin.lenOf,sizeOf,typeInfo,hti,htsz,this]
      · rw [hH]; exact h
    · exact ha.elim
  · exact ha.elim
 | ownGone hi _ =>
  rename_i k' i lo len c _;simp only [cpy] at ha;split at ha
  · rename_i kr xs hx; exact (h.obj i _ _ hx hi : OR S E w (.row kr xs) .gone).elim
  · exact ha.elim
 | own hi hfu hw hle hm ho =>
  rename_i k' i lo len c b o cap;simp only [cpy] at ha;split at ha
  · rename_i kr xs hx;split at ha
    · rename_i xs' hy;obtain ⟨rfl,rfl⟩ := castL_some hy;obtain ⟨rfl,hlen,hk⟩ := ha
      replace hlen : lo + len ≤ xs.length := hlen
      obtain ⟨cc,hb,hsz,hcs⟩ := row_cells ok (h.obj i _ _ hx hi);have hn : min ys.length len ≤ ys.length := Nat.min_le_left _ _;have hf := hfirst (min ys.length len) hn;generalize hnn : min ys.length len = n at *
      have hdsl : (cs.take (n * S.size kr)).length = n * S.size kr := by
       rw [List.length_take,hs.cells.len];have hmul : n * S.size kr ≤ ys.length * S.size kr := Nat.mul_le_mul_right _ hn;omega
      have hds : CellsOf S E w kr (ys.take n) (cs.take (n * S.size kr)) := hs.cells.take ok n;generalize hdd : cs.take (n * S.size kr) = ds at *;have hmul : lo * S.size kr + n * S.size kr ≤ xs.length * S.size kr := by rw [← Nat.add_mul]; exact Nat.mul_le_mul_right _ (by omega)
      have hst : (storeCells ⟨b,o,none⟩ ds).run S.P w = .ok () (w.setRow b (cc.toList.take (lo * S.size kr) ++ ds ++ cc.toList.drop (lo * S.size kr + ds.length)).toArray) := by
       by_cases h0 : n = 0
       · subst h0;have hd0 : ds = [] := List.eq_nil_of_length_eq_zero (by rw [hdsl]; simp);subst hd0;simp only [storeCells,List.append_nil,List.length_nil,Nat.add_zero,List.take_append_drop,Array.toArray_toList];rw [setRow_self w b cc _ _ hb];rfl
       · have ho' : o = lo * S.size kr := by
          rcases ho with ho | ⟨_,h1,_⟩
          · exact ho
          · omega
         subst ho';have := run_storeCells_at S.P b (lo * S.size kr) (S.ty kr) ds 0 cc w hb (by simp; omega) (hds.one ok);simpa using this
      generalize hnew : (cc.toList.take (lo * S.size kr) ++ ds ++ cc.toList.drop (lo * S.size kr + ds.length)).toArray = cc' at hst;have hs' : cc'.size = cc.size := by rw [← hnew]; simp; omega
      have hxt := ext_setRow (E := E) hi hb hs'
      have hall : CellsOf S E w kr (xs.take lo ++ ys.take n ++ xs.drop (lo + n)) (((cc.toList.take (xs.length * S.size kr)).take (lo * S.size kr) ++ ds) ++ (cc.toList.take (xs.length * S.size kr)).drop ((lo + n) * S.size kr)) :=
       ((hcs.take ok lo).append ok hds).append ok (hcs.drop (lo + n))
      have hyt : ys.take len = ys.take n := by
       rw [← hnn]
       rcases Nat.le_total ys.length len with hle | hle
       · rw [Nat.min_eq_left hle,List.take_of_length_le hle,List.take_of_length_le (Nat.le_refl _)]
       · rw [Nat.min_eq_right hle]
      rw [hyt] at hk;have hxl : (xs.take lo ++ ys.take n ++ xs.drop (lo + n)).length = xs.length := by simp; omega
      have hor : OR S E (w.setRow b cc') (.row kr (xs.take lo ++ ys.take n ++ xs.drop (lo + n))) (.blk b) := by
       refine row_of_cells (hall.mono ok hxt) (setRow_heap w b cc cc' _ _ hb) ?_;rw [hxl,← hnew];apply List.ext_getElem?;intro m;have hsp := splice_get (vs := cc.toList) (us := ds) (off := lo * S.size kr) (j := m) (by simp; omega);simp only [splice] at hsp
       by_cases hmx : m < xs.length * S.size kr
       · rw [List.getElem?_take_of_lt hmx];simp only [];rw [hsp]
         by_cases h1 : m < lo * S.size kr
         · simp only [h1,if_true];rw [List.append_assoc,List.getElem?_append_left (by simp; omega),List.getElem?_take_of_lt h1,List.getElem?_take_of_lt hmx]
         · by_cases h2 : m < lo * S.size kr + ds.length
           · simp only [h1,h2,if_true,if_false];have hl1 : ((cc.toList.take (xs.length * S.size kr)).take (lo * S.size kr)).length = lo * S.size kr := by simp; omega
             rw [List.append_assoc,List.getElem?_append_right (by omega),hl1,List.getElem?_append_left (by omega)]
           · simp only [h1,h2,if_false];have hl1 : ((cc.toList.take (xs.length * S.size kr)).take (lo * S.size kr) ++ ds).length = (lo + n) * S.size kr := by simp [Nat.add_mul]; omega
             rw [List.getElem?_append_right (by rw [hl1,Nat.add_mul]; omega),hl1,List.getElem?_drop,Nat.add_mul];rw [show lo * S.size kr + n * S.size kr + (m - (lo * S.size kr + n * S.size kr)) = m by omega,List.getElem?_take_of_lt hmx]
       · rw [List.getElem?_eq_none (by simp; omega),List.getElem?_eq_none];simp only [List.length_append,List.length_take,List.length_drop,Array.length_toList,Nat.add_mul];omega
      refine ⟨_,_,_,goInt n,hk,?_,emb_setRow ok h hi hb hs' hor,hxt,.int _ _⟩;have hnm : Nat.min ys.length len = n := hnn;simp [Builtin.copy_,run_underlying ht,Builtin.lenOf,sizeOf,typeInfo,hti,htsz,hnm,hf,hst]
    · exact ha.elim
  · exact ha.elim
 | _ => exact ha.elim
include ok in
theorem make_sound (h : Emb S E H w) {t : TypeId} (ht : S.P.underlying t = some (.slice (S.ty k))) {l : Int} (h0 : 0 ≤ l) (hf : fits S k l.toNat) (kl kc : IntKind) :
    ∃ E1 w1 rv,(Instr.makeSlice t (.int kl l) (.int kc l)).run S.P w = .ok rv w1 ∧ Emb S E1 (H ++ [.row k (List.replicate l.toNat (S.zero k))]) w1 ∧ Ext E w E1 w1 ∧ VR S E1 w1 (.own k H.length 0 l.toNat .whole) rv := by
 obtain ⟨ti,z,hti,htsz,hz,hzs,hby,hzz⟩ := ok.info k;have hpos := ok.pos k;have hf1 := hf.1;have hf2 := hf.2;simp only [maxLen] at hf1
 have hb : (ti.bytes : Int) * l ≤ 281474976710656 := by
  rw [hby];have : ((l.toNat * S.bytes k : Nat) : Int) ≤ 140737488355328 := by omega
  rw [Int.natCast_mul,Int.toNat_of_nonneg h0,Int.mul_comm] at this;omega
 have hrun := run_make (P := S.P) w t (S.ty k) ti z ht hti hz kl kc l l h0 (Int.le_refl _) hb (by omega);rw [htsz] at hrun
 have hcells : CellsOf S E w k (List.replicate l.toNat (S.zero k)) (madeCells z.cells (l.toNat * S.size k)).toList := by
  refine ⟨by simp [madeCells],fun j y hy t u hu => ?_⟩;have hjl : j < l.toNat := by have := (List.getElem?_eq_some_iff.1 hy).1; simpa using this
  simp [hjl] at hy;subst hy;have htl : t < S.size k := by rw [← ok.enc_len k (S.zero k)]; exact (List.getElem?_eq_some_iff.1 hu).1
  have hm : (j + 1) * S.size k ≤ l.toNat * S.size k := Nat.mul_le_mul_right _ hjl;rw [Nat.succ_mul] at hm;have hlt : j * S.size k + t < l.toNat * S.size k := by omega
  have hmod : (j * S.size k + t) % z.cells.size = t := by rw [hzs,Nat.mul_comm,Nat.mul_add_mod,Nat.mod_eq_of_lt htl]
  have htz : t < z.cells.size := by omega
  refine ⟨z.cells[t],?_,?_⟩
  · simp [madeCells,hlt,hmod,getElem!_pos,htz]
  ·
   have hzz' : ∀ (l : List Value) (us : List (AV K El)),l.mapM constAV = some us → ∀ (j : Nat) v u,l[j]? = some v → us[j]? = some u → constAV v = some u := by
    intro l
    induction l with
    | nil => intro us _ j v u hv; simp at hv
    | cons a l ih =>
     intro us hus j v u hv hu;simp only [List.mapM_cons,Option.bind_eq_bind,Option.pure_def] at hus
     cases ha : (constAV a : Option (AV K El)) with
     | none => simp [ha] at hus
     | some x =>
      cases hr : (l.mapM constAV : Option (List (AV K El))) with
      | none => simp [ha,hr] at hus
      | some us' =>
       simp [ha,hr] at hus;subst hus
       cases j with
       | zero => simp at hv hu; subst hv; subst hu; exact ha
       | succ j => exact ih us' hr j v u (by simpa using hv) (by simpa using hu)
   have hcv := hzz' z.cells.toList _ hzz t z.cells[t] u (by simp [htz]) hu;generalize z.cells[t] = c at hcv;unfold constAV at hcv
   split at hcv <;> simp at hcv <;> first | subst hcv | (obtain ⟨hone,hcv⟩ := hcv; subst hcv)
   · exact .bool _
   · exact .int _ _
   · exact .str _
   · exact .nilp
   · exact .nils
   · exact .fn _
   · exact .nilfn
   · exact .nilmap
   · exact .cell _ hone
 obtain ⟨E1,h1,h2,h3⟩ := app_new ok h hcells (rest := #[]) (cap := l.toNat) (by simp) hf.1 (by simp [madeCells]) (w1 := w.alloc (.cells (madeCells z.cells (l.toNat * S.size k)) (S.ty k))) (by
  have he : (madeCells z.cells (l.toNat * S.size k)).toList.toArray ++ #[] = madeCells z.cells (l.toNat * S.size k) := by simp
  rw [he]; rfl) rfl rfl rfl
 refine ⟨E1,_,_,hrun,h1,h2,?_⟩;simpa using h3
end
theorem constAV_VR {v : Value} {u : AV K El} (hcv : constAV v = some u) (E : Env) (w : World) : VR S E w u v ∧ u.one = true := by
 unfold constAV at hcv
 split at hcv <;> simp at hcv <;> first | subst hcv | (obtain ⟨hone,hcv⟩ := hcv; subst hcv)
 · exact ⟨.bool _,rfl⟩
 · exact ⟨.int _ _,rfl⟩
 · exact ⟨.str _,rfl⟩
 · exact ⟨.nilp,rfl⟩
 · exact ⟨.nils,rfl⟩
 · exact ⟨.fn _,rfl⟩
 · exact ⟨.nilfn,rfl⟩
 · exact ⟨.nilmap,rfl⟩
 · exact ⟨.cell _ hone,rfl⟩
theorem mapM_const {l : List Value} : ∀ {us : List (AV K El)},l.mapM constAV = some us → us.length = l.length ∧ ∀ (j : Nat) v u,l[j]? = some v → us[j]? = some u → constAV v = some u := by
 induction l with
 | nil => intro us h; simp at h; subst h; exact ⟨rfl,fun j v u hv => by simp at hv⟩
 | cons a l ih =>
  intro us hus;simp only [List.mapM_cons,Option.bind_eq_bind,Option.pure_def] at hus
  cases ha : (constAV a : Option (AV K El)) with
  | none => simp [ha] at hus
  | some x =>
   cases hr : (l.mapM constAV : Option (List (AV K El))) with
   | none => simp [ha,hr] at hus
   | some us' =>
    simp [ha,hr] at hus;subst hus;obtain ⟨h1,h2⟩ := ih hr;refine ⟨by simp [h1],fun j v u hv hu => ?_⟩
    cases j with
    | zero => simp at hv hu; subst hv; subst hu; exact ha
    | succ j => exact h2 j v u (by simpa using hv) (by simpa using hu)
theorem constV_VR {v : Value} {u : AV K El} (h : constV v = some u) (E : Env) (w : World) : VR2 S E w u v := by
 unfold constV at h;split at h
 · rename_i cs
   cases hm : (cs.toList.mapM constAV : Option (List (AV K El))) with
   | none => rw [hm] at h; simp at h
   | some us =>
    rw [hm] at h; simp at h; subst h;obtain ⟨h1,h2⟩ := mapM_const hm;refine ⟨cs,rfl,by simpa using h1.symm,fun j u hu => ?_⟩;have hj : j < cs.size := by have := (List.getElem?_eq_some_iff.1 hu).1; simp at h1; omega
    have := h2 j cs[j] u (by simp [hj]) hu;obtain ⟨k1,k2⟩ := constAV_VR (S := S) this E w;exact ⟨cs[j],by simp [hj],k2,k1⟩
 · obtain ⟨k1,k2⟩ := constAV_VR (S := S) h E w;exact k1.one_of k2
end Sh
end Go.Proofs.YtomdfaelgcefdaaGreatDoor
namespace Go.Proofs.YtomdfaelgcefdaaGreatDoor
open Go
namespace Sh
variable {K : Type} {El : K → Type} {S : Seat K El}
theorem run_sliceBound {P : Program} (w : World) (k : IntKind) (i : Int) (y : Nat) (code : BoundsCode) (h0 : 0 ≤ i) (h1 : i ≤ y) : (Instr.sliceBound (.int k i) y code).run P w = .ok i.toNat w := by
 simp [Instr.sliceBound,asIntOf,h0,h1]
theorem run_sliceBounds {P : Program} (w : World) (b : Bool) {len cap : Nat} {vlo vhi vmx : Option Value} {l h m : Int} (hl0 : 0 ≤ l) (hlh : l ≤ h) (hhm : h ≤ m) (hmc : m ≤ cap)
    (hlo : (vlo = none ∧ l = 0) ∨ ∃ k,vlo = some (.int k l)) (hhi : (vhi = none ∧ vmx = none ∧ h = len) ∨ ∃ k,vhi = some (.int k h)) (hmx : (vmx = none ∧ m = cap) ∨ ∃ k,vmx = some (.int k m)) :
    (Instr.sliceBounds b len cap vlo vhi vmx).run P w = .ok (l.toNat,h.toNat,m.toNat) w := by
 have hm0 : 0 ≤ m := by omega
 have hh0 : 0 ≤ h := by omega
 rcases hmx with ⟨rfl,rfl⟩ | ⟨km,rfl⟩
 · rcases hhi with ⟨rfl,_,rfl⟩ | ⟨kh,rfl⟩
   · rcases hlo with ⟨rfl,rfl⟩ | ⟨kl,rfl⟩
     · simp [Instr.sliceBounds]
     · have := run_sliceBound (P := P) w kl l len .sliceB hl0 hlh;simp [Instr.sliceBounds,this]
   · have h1 := fun c => run_sliceBound (P := P) w kh h cap c hh0 hhm
     rcases hlo with ⟨rfl,rfl⟩ | ⟨kl,rfl⟩
     · simp [Instr.sliceBounds,h1]
     · have h2 := fun c => run_sliceBound (P := P) w kl l h.toNat c hl0 (by omega);simp [Instr.sliceBounds,h1,h2]
 · rcases hhi with ⟨_,h2,_⟩ | ⟨kh,rfl⟩
   · cases h2
   · have h0 := fun c => run_sliceBound (P := P) w km m cap c hm0 hmc;have h1 := fun c => run_sliceBound (P := P) w kh h m.toNat c hh0 (by omega)
     rcases hlo with ⟨rfl,rfl⟩ | ⟨kl,rfl⟩
     · simp [Instr.sliceBounds,h0,h1]
     · have h2 := fun c => run_sliceBound (P := P) w kl l h.toNat c hl0 (by omega);simp [Instr.sliceBounds,h0,h1,h2]
theorem run_sliceAt {P : Program} (w : World) {t e : TypeId} (ht : P.underlying t = some (.slice e)) {sz : Nat} {i : TypeInfo} (hi : P.info? e = some i) (hsz : i.size = sz) {A : Option Addr} {len cap : Nat} {vlo vhi vmx : Option Value} {l h m : Int}
    (hl0 : 0 ≤ l) (hlh : l ≤ h) (hhm : h ≤ m) (hmc : m ≤ cap)
    (hlo : (vlo = none ∧ l = 0) ∨ ∃ k,vlo = some (.int k l)) (hhi : (vhi = none ∧ vmx = none ∧ h = len) ∨ ∃ k,vhi = some (.int k h)) (hmx : (vmx = none ∧ m = cap) ∨ ∃ k,vmx = some (.int k m)) :
    (Instr.sliceAt t (.slice A len cap) vlo vhi vmx).run P w = .ok (.slice (if m.toNat = l.toNat then A else A.map (·.add (l.toNat * sz))) (h.toNat - l.toNat) (m.toNat - l.toNat)) w := by
 have := run_sliceBounds (P := P) w true hl0 hlh hhm hmc hlo hhi hmx;simp [Instr.sliceAt,Instr.slice,run_underlying ht,this,sizeOf,typeInfo,hi,hsz]
theorem idx_sound {on : Bool} {v : Option (AV K El)} {d : Int} {kk : Int → Prop} (h : idx on v d kk) : (on = false ∧ kk d) ∨ ∃ k n,on = true ∧ v = some (.int k n) ∧ kk n := by
 unfold idx at h;split at h
 · exact .inl ⟨rfl,h⟩
 · exact .inr ⟨_,_,rfl,rfl,h⟩
 · exact h.elim
section
variable (ok : Ok S) {E E' : Env} {H : Heap K El} {w w' : World} {k : K}
structure Bds (lo hi mx : Bool) (vs : List (AV K El)) (vlo vhi vmx : Option Value) : Prop where
 plo : (lo = false ∧ vlo = none) ∨ (lo = true ∧ ∀ k l,(if lo then vs[0]? else none) = some (.int k l) → vlo = some (.int k l))
 phi : (hi = false ∧ vhi = none) ∨ (hi = true ∧ ∀ k l,vs[lo.toNat]? = some (.int k l) → vhi = some (.int k l))
 pmx : (mx = false ∧ vmx = none) ∨ (mx = true ∧ hi = true ∧ ∀ k l,vs[lo.toNat + hi.toNat]? = some (.int k l) → vmx = some (.int k l))
theorem alive_loc {x : AV K El} (h : Emb S E H w) (ha : alive H x = true) : ∀ (i : Nat),(∃ off,x = .ptr i off) ∨ (∃ k e off,x = .eptr k i e off) ∨ (∃ k lo len c,x = .own k i lo len c) ∨ x = .mp i ∨ (∃ f is,x = .clo f is ∧ some i ∈ is) → E.ρ[i]? ≠ some .gone := by
 intro i hx hg;have hlt : i < H.length := by rw [← h.len]; exact (List.getElem?_eq_some_iff.1 hg).1
 have ho := h.obj i H[i] .gone (List.getElem?_eq_getElem hlt) hg
 have hq : H[i]? = some .gone := by
  rw [List.getElem?_eq_getElem hlt]
  cases hH : H[i] with
  | gone => rfl
  | cells vs => rw [hH] at ho; exact ho.elim
  | row k xs => rw [hH] at ho; exact ho.elim
  | siter s p => rw [hH] at ho; exact ho.elim
  | rowx k xs e vs => rw [hH] at ho; exact ho.elim
  | map es => rw [hH] at ho; exact ho.elim
  | miter i => rw [hH] at ho; exact ho.elim
  | arr k xs => rw [hH] at ho; exact ho.elim
 rcases hx with ⟨_,rfl⟩ | ⟨_,_,_,rfl⟩ | ⟨_,_,_,_,rfl⟩ | rfl | ⟨f,is,rfl,hi⟩
 · simp [alive,hq] at ha
 · simp [alive,hq] at ha
 · simp [alive,hq] at ha
 · simp [alive,hq] at ha
 · have := List.all_eq_true.1 ha _ hi;simp [hq] at this
include ok in
theorem slc_sound (h : Emb S E H w) {t : TypeId} (ht : S.P.underlying t = some (.slice (S.ty k))) {lo hi mx : Bool} {x : AV K El} {vs : List (AV K El)} {kt : AV K El → Prop} (hs : slc k lo hi mx x vs kt)
    {vlo vhi vmx : Option Value} (hb : Bds lo hi mx vs vlo vhi vmx) {xv : Value} (ha : alive H x = true) (hx : VR S E w x xv) :
    ∃ r rv,kt r ∧ (Instr.sliceAt t xv vlo vhi vmx).run S.P w = .ok rv w ∧ VR S E w r rv := by
 obtain ⟨ti,z,hti,htsz,hz,hzs,hby,hzz⟩ := ok.info k
 have lows : ∀ {kk : Int → Prop},idx lo (if lo then vs[0]? else none) 0 kk → ∃ l,kk l ∧ ((vlo = none ∧ l = 0) ∨ ∃ k,vlo = some (.int k l)) := by
  intro kk hh
  rcases idx_sound hh with ⟨h1,h2⟩ | ⟨kd,n,h1,h2,h3⟩
  · rcases hb.plo with ⟨_,h5⟩ | ⟨h4,_⟩
    · exact ⟨0,h2,.inl ⟨h5,rfl⟩⟩
    · rw [h1] at h4; cases h4
  · rcases hb.plo with ⟨h4,_⟩ | ⟨_,h5⟩
    · rw [h1] at h4; cases h4
    · exact ⟨n,h3,.inr ⟨kd,h5 kd n h2⟩⟩
 have his : ∀ {d : Int} {kk : Int → Prop},idx hi vs[lo.toNat]? d kk → ∃ l,kk l ∧ ((vhi = none ∧ vmx = none ∧ l = d) ∨ ∃ k,vhi = some (.int k l)) := by
  intro d kk hh
  rcases idx_sound hh with ⟨h1,h2⟩ | ⟨kd,n,h1,h2,h3⟩
  · rcases hb.phi with ⟨_,h5⟩ | ⟨h4,_⟩
    · refine ⟨d,h2,.inl ⟨h5,?_,rfl⟩⟩
      rcases hb.pmx with ⟨_,h6⟩ | ⟨_,h6,_⟩
      · exact h6
      · rw [h1] at h6; cases h6
    · rw [h1] at h4; cases h4
  · rcases hb.phi with ⟨h4,_⟩ | ⟨_,h5⟩
    · rw [h1] at h4; cases h4
    · exact ⟨n,h3,.inr ⟨kd,h5 kd n h2⟩⟩
 have own : ∀ {i l0 len : Nat} {c : Cp} {xv : Value},alive H (.own k i l0 len c) = true → VR S E w (.own k i l0 len c) xv → ∀ {l hh : Int} {m : Option Int},sliceOwn k i l0 len c l hh m kt → ((vlo = none ∧ l = 0) ∨ ∃ k,vlo = some (.int k l)) →
     ((vhi = none ∧ vmx = none ∧ hh = len) ∨ ∃ k,vhi = some (.int k hh)) → ((vmx = none ∧ m = none) ∨ ∃ k n,vmx = some (.int k n) ∧ m = some n) →
     ∃ r rv,kt r ∧ (Instr.sliceAt t xv vlo vhi vmx).run S.P w = .ok rv w ∧ VR S E w r rv := by
  intro i l0 len c xv hal hv l hh m hso hlo hhi hmx;obtain ⟨hl0,hlh,hhl,hk⟩ := hso
  cases hv with
  | own hi hf hw hle hm ho =>
   rename_i b o cap
   rcases hmx with ⟨hv1,rfl⟩ | ⟨km,n,hv1,rfl⟩
   · have hr := run_sliceAt (P := S.P) w ht hti htsz (A := some ⟨b,o,none⟩) (len := len) (cap := cap) hl0 hlh (m := cap) (by omega) (Int.le_refl _) hlo hhi (.inl ⟨hv1,rfl⟩);simp only [Int.toNat_natCast,Option.map_some,add_lit] at hr;refine ⟨_,_,hk,hr,?_⟩;have hcap : l.toNat ≤ cap := by omega
     by_cases hcl : cap = l.toNat
     · rw [if_pos hcl]
       by_cases hz0 : l.toNat = 0
       · have hc0 : cap - l.toNat = cap := by omega
         rw [hc0,hz0];refine .own hi (fun hc => by cases c <;> simp at hc) (fun hc => ?_) (by omega) hm ?_
         · cases c <;> simp at hc
           simpa using hw rfl
         · rcases ho with ho | ⟨h1,h2,h3⟩
           · exact .inl (by simpa using ho)
           · exact .inr ⟨by simpa using h1,by omega,h3⟩
       · refine .own hi (fun hc => by cases c <;> simp at hc) (fun hc => ?_) (by omega) (by omega) (.inr ⟨by omega,by omega,by omega⟩)
         cases c <;> simp at hc
         obtain ⟨e,he⟩ := hw rfl;exact ⟨e,by rw [he]; congr 3; omega⟩
     · rw [if_neg hcl];refine .own hi (fun hc => by cases c <;> simp at hc) (fun hc => ?_) (by omega) (by omega) ?_
       · cases c <;> simp at hc
         obtain ⟨e,he⟩ := hw rfl;exact ⟨e,by rw [he]; congr 3; omega⟩
       · rcases ho with ho | ⟨h1,h2,h3⟩
         · exact .inl (by rw [ho,Nat.add_mul])
         · omega
   · obtain ⟨hnh,hk⟩ := hk;subst hnh;have hr := run_sliceAt (P := S.P) w ht hti htsz (A := some ⟨b,o,none⟩) (len := len) (cap := cap) hl0 hlh (m := n) (Int.le_refl _) (by omega) hlo hhi (.inr ⟨km,hv1⟩);simp only [Option.map_some,add_lit] at hr;refine ⟨_,_,hk,hr,?_⟩
     by_cases hcl : n.toNat = l.toNat
     · rw [if_pos hcl];refine .own hi (fun _ => rfl) (fun hc => by cases hc) (Nat.le_refl _) (by omega) ?_
       by_cases hz0 : l0 + l.toNat = 0
       · left
         rcases ho with ho | ⟨h1,_⟩
         · rw [hz0]; rw [ho]; have : l0 = 0 := by omega
           rw [this]
         · omega
       · exact .inr ⟨hz0,by omega,by omega⟩
     · rw [if_neg hcl];refine .own hi (fun _ => rfl) (fun hc => by cases hc) (Nat.le_refl _) (by omega) ?_
       rcases ho with ho | ⟨h1,h2,h3⟩
       · exact .inl (by rw [ho,Nat.add_mul])
       · omega
  | ownNil hi =>
   have hl : l = 0 := by omega
   have hh0 : hh = 0 := by omega
   subst hl; subst hh0
   rcases hmx with ⟨hv1,rfl⟩ | ⟨km,n,hv1,rfl⟩
   · have hr := run_sliceAt (P := S.P) w ht hti htsz (A := none) (len := 0) (cap := 0) (Int.le_refl 0) (Int.le_refl 0) (m := 0) (Int.le_refl 0) (Int.le_refl 0) hlo hhi (.inl ⟨hv1,rfl⟩);simp at hr;refine ⟨_,_,hk,hr,?_⟩;simpa using VR.ownNil hi
   · obtain ⟨hnh,hk⟩ := hk;subst hnh;have hr := run_sliceAt (P := S.P) w ht hti htsz (A := none) (len := 0) (cap := 0) (Int.le_refl 0) (Int.le_refl 0) (m := 0) (Int.le_refl 0) (Int.le_refl 0) hlo hhi (.inr ⟨km,hv1⟩);simp at hr;refine ⟨_,_,hk,hr,?_⟩;simpa using VR.ownNil hi
  | ownGone hi _ => exact absurd hi (alive_loc h hal i (.inr (.inr (.inl ⟨_,_,_,_,rfl⟩))))
 cases x <;> first
  | exact hs.elim
  | skip
 case own k' i l0 len c =>
  simp only [slc] at hs;obtain ⟨l,hs,hlo⟩ := lows hs;obtain ⟨hh,hs,hhi⟩ := his hs;obtain ⟨rfl,hs⟩ := hs
  rcases hb.pmx with ⟨rfl,h6⟩ | ⟨rfl,rfl,h6⟩
  · exact own ha hx (by simpa using hs) hlo hhi (.inl ⟨h6,rfl⟩)
  · rcases idx_sound (show idx true _ _ _ from by simpa using hs) with ⟨h1,_⟩ | ⟨km,n,_,h2,h3⟩
    · cases h1
    · exact own ha hx h3 hlo hhi (.inr ⟨km,n,h6 km n (by simpa using h2),rfl⟩)
 case imm k' xs =>
  simp only [slc] at hs;obtain ⟨l,hs,hlo⟩ := lows hs;obtain ⟨hh,hs,hhi⟩ := his hs;obtain ⟨rfl,hl0,hlh,hhl,rfl,hk⟩ := hs
  have hmx : vmx = none := by
   rcases hb.pmx with ⟨_,h6⟩ | ⟨h6,_⟩
   · exact h6
   · cases h6
  cases hx with
  | immNil A cap hm0 =>
   have hl : l = 0 := by simp at hhl; omega
   have hh0 : hh = 0 := by simp at hhl; omega
   subst hl; subst hh0;have hr := run_sliceAt (P := S.P) w ht hti htsz (A := A) (len := 0) (cap := cap) (Int.le_refl 0) (Int.le_refl 0) (m := cap) (by omega) (Int.le_refl _) hlo (by simpa using hhi) (.inl ⟨hmx,rfl⟩);exact ⟨_,_,hk,hr,.immNil _ _ (by omega)⟩
  | imm b o cap cs hst hle hm hc hv =>
   have hr := run_sliceAt (P := S.P) w ht hti htsz (A := some ⟨b,o,none⟩) (len := xs.length) (cap := cap) hl0 hlh (m := cap) (by omega) (Int.le_refl _) hlo hhi (.inl ⟨hmx,rfl⟩);simp only [Int.toNat_natCast,Option.map_some,add_lit] at hr;have hlen : ((xs.take hh.toNat).drop l.toNat).length = hh.toNat - l.toNat := by simp; omega
   refine ⟨_,_,hk,hr,?_⟩
   have key : ∀ o',(((xs.take hh.toNat).drop l.toNat) ≠ [] → o' = o + l.toNat * S.size k') → VR S E w (.imm k' ((xs.take hh.toNat).drop l.toNat)) (.slice (some ⟨b,o',none⟩) (hh.toNat - l.toNat) (cap - l.toNat)) := by
    intro o' ho';rw [← hlen];refine .imm b o' _ (fun n => cs (l.toNat * S.size k' + n)) (fun hne => hst (by rintro rfl; simp at hne)) (by omega) (by omega) (fun n hn => ?_) (fun j y t u hy hu => ?_)
    · have hne : ((xs.take hh.toNat).drop l.toNat) ≠ [] := by
       intro he; rw [he] at hn; simp at hn
      rw [ho' hne];rw [hlen] at hn;have hmul : l.toNat * S.size k' + (hh.toNat - l.toNat) * S.size k' ≤ xs.length * S.size k' := by rw [← Nat.add_mul]; exact Nat.mul_le_mul_right _ (by omega)
      have := hc (l.toNat * S.size k' + n) (by omega);rw [← Nat.add_assoc] at this;exact this
    · have hj := (List.getElem?_eq_some_iff.1 hy).1;rw [List.getElem?_drop,List.getElem?_take_of_lt (by omega)] at hy;have := hv _ _ t u hy hu;rw [Nat.add_mul,Nat.add_assoc] at this;exact this
   by_cases hcl : cap = l.toNat
   · rw [if_pos hcl];exact key o (fun hne => absurd (List.eq_nil_of_length_eq_zero (by rw [hlen]; omega)) hne)
   · rw [if_neg hcl];exact key _ (fun _ => rfl)
 case nils =>
  simp only [slc] at hs;obtain ⟨l,hs,hlo⟩ := lows hs;obtain ⟨hh,hs,hhi⟩ := his hs;obtain ⟨rfl,rfl,rfl,hk⟩ := hs;cases hx
  have hmx : vmx = none := by
   rcases hb.pmx with ⟨_,h6⟩ | ⟨h6,_⟩
   · exact h6
   · cases h6
  have hr := run_sliceAt (P := S.P) w ht hti htsz (A := none) (len := 0) (cap := 0) (Int.le_refl 0) (Int.le_refl 0) (m := 0) (Int.le_refl 0) (Int.le_refl 0) hlo (by simpa using hhi) (.inl ⟨hmx,rfl⟩);simp at hr;exact ⟨_,_,hk,hr,.nils⟩
end
end Sh
end Go.Proofs.YtomdfaelgcefdaaGreatDoor
namespace Go.Proofs.YtomdfaelgcefdaaGreatDoor
open Go
namespace Sh
variable {K : Type} {El : K → Type} {S : Seat K El}
theorem foldl_set (l : List Value) : ∀ (s off : Nat) (cs : Array Value),(List.foldl (fun cs (x : Value × Nat) => cs.setIfInBounds (off + x.2) x.1) cs (l.zipIdx s)).size = cs.size ∧
    ∀ (m : Nat),m < cs.size → (List.foldl (fun cs (x : Value × Nat) => cs.setIfInBounds (off + x.2) x.1) cs (l.zipIdx s))[m]? = if off + s ≤ m ∧ m < off + s + l.length then l[m - (off + s)]? else cs[m]? := by
 induction l with
 | nil =>
  intro s off cs;refine ⟨by simp,fun m _ => ?_⟩;rw [if_neg (by simp only [List.length_nil]; omega)];simp
 | cons a l ih =>
  intro s off cs;simp only [List.zipIdx_cons,List.foldl_cons];obtain ⟨h1,h2⟩ := ih (s + 1) off (cs.setIfInBounds (off + s) a);refine ⟨by rw [h1]; simp,fun m hm => ?_⟩;rw [h2 m (by simpa using hm)]
  by_cases hms : m = off + s
  · subst hms;have : ¬ (off + (s + 1) ≤ off + s ∧ off + s < off + (s + 1) + l.length) := by omega
    rw [if_neg this,if_pos ⟨by omega,by simp⟩];simp [hm]
  · by_cases h : off + (s + 1) ≤ m ∧ m < off + (s + 1) + l.length
    · rw [if_pos h,if_pos ⟨by omega,by simp; omega⟩];rw [show m - (off + s) = (m - (off + (s + 1))) + 1 by omega];simp
    · rw [if_neg h,if_neg (by simp; omega)];rw [Array.getElem?_setIfInBounds];simp [Ne.symm hms]
def CellsR (S : Seat K El) (E : Env) (w : World) (us : List (AV K El)) (cs : Array Value) : Prop :=
 cs.size = us.length ∧ ∀ (j : Nat) u,us[j]? = some u → ∃ c,cs[j]? = some c ∧ u.one = true ∧ VR S E w u c
theorem VR2.cells {E : Env} {w : World} {u : AV K El} {v : Value} (h : VR2 S E w u v) (hone : u.cells.all AV.one = true) : CellsR S E w u.cells v.cells := by
 cases hp : u.plain with
 | true =>
  rw [VR2_plain hp] at h
  have hu : u.cells = [u] := by cases u <;> first | rfl | simp [AV.plain] at hp
  rw [hu] at hone ⊢;simp at hone
  have hv : v.cells = #[v] := by
   have := h.oneCell hone
   cases v <;> first | rfl | simp [Value.oneCell'] at this
  rw [hv];refine ⟨rfl,fun j u' hj => ?_⟩
  cases j with
  | zero => simp at hj; subst hj; exact ⟨v,rfl,hone,h⟩
  | succ j => simp at hj
 | false =>
  cases u <;> simp [AV.plain] at hp
  case agg cs =>
   obtain ⟨a,rfl,h1,h2⟩ := h;exact ⟨h1,h2⟩
  case tup cs => simp [AV.cells,AV.one] at hone
theorem lay_fill {E : Env} {w : World} (place : Nat → Option (Nat × Nat)) : ∀ (ps : List (Nat × Nat)) (is : List Nat) (us : List (AV K El)) (vals : List Value) (z z' : List (AV K El)) (zc : Array Value),
    lay z ps us = some z' → is.length = ps.length → vals.length = us.length → (∀ (j : Nat) i p,is[j]? = some i → ps[j]? = some p → place i = some p) →
    (∀ (j : Nat) u v,us[j]? = some u → vals[j]? = some v → VR2 S E w u v) → CellsR S E w z zc →
    ∃ cc,Instr.fill place zc (is.zip vals) = some cc ∧ CellsR S E w z' cc := by
 intro ps
 induction ps with
 | nil =>
  intro is us vals z z' zc hl hi hv hp hus hz;have : is = [] := List.eq_nil_of_length_eq_zero (by simpa using hi);subst this
  cases us with
  | nil => simp [lay] at hl; subst hl; exact ⟨zc,by simp [Instr.fill],hz⟩
  | cons a l => simp [lay] at hl
 | cons p ps ih =>
  intro is us vals z z' zc hl hi hv hp hus hz;obtain ⟨off,n⟩ := p
  cases us with
  | nil => simp [lay] at hl
  | cons u us =>
   cases is with
   | nil => simp at hi
   | cons i is =>
    cases vals with
    | nil => simp at hv
    | cons v vals =>
     simp only [lay] at hl;split at hl
     · rename_i hc;obtain ⟨hn,hle,hone⟩ := hc;have hpl : place i = some (off,n) := hp 0 i _ rfl rfl;have huv := (hus 0 u v rfl rfl).cells hone;have hvs : v.cells.size = n := by rw [huv.1,hn]
       have hbad : ¬ ((v.cells.size ≠ n || off + v.cells.size > zc.size) = true) := by simp [hvs,hz.1]; omega
       obtain ⟨f1,f2⟩ := foldl_set v.cells.toList 0 off zc
       have hfold : Array.foldl (fun cs (x : Value × Nat) => cs.setIfInBounds (off + x.2) x.1) zc v.cells.zipIdx = List.foldl (fun cs (x : Value × Nat) => cs.setIfInBounds (off + x.2) x.1) zc (v.cells.toList.zipIdx 0) := by
        rw [← Array.foldl_toList]; simp
       obtain ⟨cc,h1,h2⟩ := ih is us vals (splice z off u.cells) z' (List.foldl (fun cs (x : Value × Nat) => cs.setIfInBounds (off + x.2) x.1) zc (v.cells.toList.zipIdx 0)) hl (by simpa using hi) (by simpa using hv)
        (fun j i p h h' => hp (j + 1) i p (by simpa using h) (by simpa using h')) (fun j u v h h' => hus (j + 1) u v (by simpa using h) (by simpa using h'))
        ⟨by rw [f1,hz.1,splice_length (by omega)],fun j x hx => by
         have hjl : j < zc.size := by have := (List.getElem?_eq_some_iff.1 hx).1; rw [splice_length (by omega)] at this; rw [hz.1]; exact this
         rw [f2 j hjl];rw [splice_get (by omega)] at hx;simp only [Nat.add_zero,Array.length_toList,hvs]
         by_cases ha : j < off
         · rw [if_pos ha] at hx;rw [if_neg (by omega)];exact hz.2 j x hx
         · rw [if_neg ha] at hx
           by_cases hb : j < off + n
           · rw [hn,if_pos hb] at hx;rw [if_pos ⟨by omega,hb⟩];obtain ⟨c,k1,k2,k3⟩ := huv.2 _ x hx;exact ⟨c,by simpa using k1,k2,k3⟩
           · rw [hn,if_neg hb] at hx;rw [if_neg (by omega)]
             exact hz.2 j x hx⟩
       refine ⟨cc,?_,h2⟩;simp only [List.zip_cons_cons,Instr.fill,hpl,hbad];rw [hfold];exact h1
     · cases hl
theorem fill_row (sz : Nat) : ∀ (vals : List Value) (s : Nat) (cs : Array Value),(s + vals.length) * sz ≤ cs.size → (∀ v ∈ vals,v.cells.size = sz) →
    ∃ cc,Instr.fill (fun i => some (i * sz,sz)) cs ((List.range' s vals.length).zip vals) = some cc ∧ cc.size = cs.size ∧ (∀ m,m < s * sz → cc[m]? = cs[m]?) ∧
     ∀ (j t : Nat) v,vals[j]? = some v → t < sz → cc[(s + j) * sz + t]? = v.cells[t]? := by
 intro vals
 induction vals with
 | nil => intro s cs _ _; exact ⟨cs,by simp [Instr.fill],rfl,fun _ _ => rfl,fun j t v h => by simp at h⟩
 | cons v vals ih =>
  intro s cs hle hsz;have hv := hsz v (by simp)
  have h1 : s * sz + sz ≤ cs.size := by
   have : (s + 1) * sz ≤ (s + (v :: vals).length) * sz := Nat.mul_le_mul_right _ (by simp);rw [Nat.succ_mul] at this; omega
  obtain ⟨f1,f2⟩ := foldl_set v.cells.toList 0 (s * sz) cs
  have hfold : Array.foldl (fun cs (x : Value × Nat) => cs.setIfInBounds (s * sz + x.2) x.1) cs v.cells.zipIdx = List.foldl (fun cs (x : Value × Nat) => cs.setIfInBounds (s * sz + x.2) x.1) cs (v.cells.toList.zipIdx 0) := by
   rw [← Array.foldl_toList]; simp
  obtain ⟨cc,g1,g2,g3,g4⟩ := ih (s + 1) (List.foldl (fun cs (x : Value × Nat) => cs.setIfInBounds (s * sz + x.2) x.1) cs (v.cells.toList.zipIdx 0)) (by rw [f1]; simp at hle; rw [show s + 1 + vals.length = s + (vals.length + 1) by omega]; exact hle) (fun x hx => hsz x (by simp [hx]));have hbad : ¬ ((v.cells.size ≠ sz || s * sz + v.cells.size > cs.size) = true) := by simp [hv]; omega
  refine ⟨cc,?_,by rw [g2,f1],fun m hm => ?_,fun j t x hx ht => ?_⟩
  · simp only [List.length_cons,List.range'_succ,List.zip_cons_cons,Instr.fill,hbad];rw [hfold];exact g1
  · rw [g3 m (by rw [Nat.succ_mul]; omega),f2 m (by omega),if_neg (by omega)]
  · cases j with
    | zero =>
     simp at hx; subst hx;rw [Nat.add_zero,g3 _ (by rw [Nat.succ_mul]; omega),f2 _ (by omega),if_pos ⟨by omega,by simp [hv]; omega⟩];simp
    | succ j =>
     have := g4 j t x (by simpa using hx) ht;rw [show s + (j + 1) = s + 1 + j by omega];exact this
theorem rowOf_get {k : K} : ∀ {us : List (AV K El)} {xs : List (El k)},rowOf S k us = some xs → xs.length = us.length ∧ ∀ (j : Nat) u x,us[j]? = some u → xs[j]? = some x → S.unc k u.cells = some x := by
 intro us
 induction us with
 | nil => intro xs h; simp [rowOf] at h; subst h; exact ⟨rfl,fun j u x h => by simp at h⟩
 | cons a l ih =>
  intro xs h;simp only [rowOf] at h;split at h
  · rename_i y ys hy hys;simp at h;subst h;obtain ⟨h1,h2⟩ := ih hys;refine ⟨by simp [h1],fun j u x hu hx => ?_⟩
    cases j with
    | zero => simp at hu hx; subst hu; subst hx; exact hy
    | succ j => exact h2 j u x (by simpa using hu) (by simpa using hx)
  · cases h
def plainF (P : Program) (T : TypeId → Option (List CK)) : List Field → List CK → Option (List CK)
 | [],acc => some acc
 | f :: fs,acc => match T f.type,P.info? f.type with
  | some ks,some i => if f.name ≠ "_" ∧ f.offset = acc.length ∧ i.size = ks.length then plainF P T fs (acc ++ ks) else none
  | _,_ => none
def plainT (P : Program) : Nat → TypeId → Option (List CK)
 | 0,_ => none
 | d + 1,t => match P.underlying t with
  | some .bool => some [.b]
  | some (.int _) => some [.i]
  | some .string => some [.s]
  | some (.struct fs) => if P.stoodInHeld t then none else plainF P (plainT P d) fs.toList []
  | some (.array n e) => match plainT P d e,P.info? e with
   | some ks,some i => if i.size = ks.length then some (List.replicate n ks).flatten else none
   | _,_ => none
  | _ => none
theorem eqs_split : ∀ (n : Nat) {l m : List (AV K El)} {b : Bool},eqs l m = some b → ∃ b1 b2,eqs (l.take n) (m.take n) = some b1 ∧ eqs (l.drop n) (m.drop n) = some b2 ∧ b = (b1 && b2)
 | 0,l,m,b,h => ⟨true,b,by simp [eqs],by simpa using h,by simp⟩
 | n + 1,[],[],b,h => by simp [eqs] at h; subst h; exact ⟨true,true,by simp [eqs],by simp [eqs],rfl⟩
 | n + 1,[],_ :: _,b,h => by simp [eqs] at h
 | n + 1,_ :: _,[],b,h => by simp [eqs] at h
 | n + 1,x :: l,y :: m,b,h => by
  simp only [eqs] at h;split at h
  · rename_i p q hp hq;obtain ⟨b1,b2,h1,h2,h3⟩ := eqs_split n hq;simp at h;refine ⟨p && b1,b2,by simp [eqs,hp,h1],by simpa using h2,by rw [← h,h3,Bool.and_assoc]⟩
  · cases h
theorem kds_append : ∀ {ks ks' : List CK} {us : List (AV K El)},kds (ks ++ ks') us = true → kds ks (us.take ks.length) = true ∧ kds ks' (us.drop ks.length) = true
 | [],ks',us,h => by simpa [kds] using h
 | c :: ks,ks',[],h => by simp [kds] at h
 | c :: ks,ks',u :: us,h => by
  simp only [List.cons_append,kds,Bool.and_eq_true] at h;obtain ⟨h1,h2⟩ := kds_append h.2;simp [kds,h.1,h1,h2]
theorem CellsR.sub {E : Env} {w : World} {us : List (AV K El)} {cs : Array Value} (h : CellsR S E w us cs) (off n : Nat) : CellsR S E w ((us.drop off).take n) (cs.extract off (off + n)) := by
 refine ⟨by simp [h.1]; omega,fun j u hu => ?_⟩;have hj : j < n := by have := (List.getElem?_eq_some_iff.1 hu).1; simp at this; omega
 rw [List.getElem?_take_of_lt hj,List.getElem?_drop] at hu;obtain ⟨c,h1,h2,h3⟩ := h.2 _ u hu;refine ⟨c,?_,h2,h3⟩;have hlt := (Array.getElem?_eq_some_iff.1 h1).1;rw [Array.getElem?_extract];rw [if_pos (by omega)];exact h1
theorem eq1_sound {P : Program} {E : Env} {w : World} {u v : AV K El} {x y : Value} {b : Bool} (h : eq1 u v = some b) (hx : VR S E w u x) (hy : VR S E w v y) {t : TypeId} {d : Nat} {c : CK}
    (ht : (c = .b ∧ P.underlying t = some .bool) ∨ (c = .i ∧ ∃ k,P.underlying t = some (.int k)) ∨ (c = .s ∧ P.underlying t = some .string)) (hc : kd1 c u = true) :
    (Op.equalIn (d + 1) t x y).run P w = .ok b w := by
 cases hx <;> cases hy <;> simp [eq1] at h
 · subst h
   rcases ht with ⟨rfl,ht⟩ | ⟨rfl,_⟩ | ⟨rfl,_⟩
   · exact run_equalIn_bool' w d t _ _ ht
   · simp [kd1] at hc
   · simp [kd1] at hc
 · obtain ⟨rfl,rfl⟩ := h
   rcases ht with ⟨rfl,_⟩ | ⟨rfl,k',ht⟩ | ⟨rfl,_⟩
   · simp [kd1] at hc
   · exact run_equalIn_int w d t _ k' _ _ ht
   · simp [kd1] at hc
 · subst h
   rcases ht with ⟨rfl,_⟩ | ⟨rfl,_⟩ | ⟨rfl,ht⟩
   · simp [kd1] at hc
   · simp [kd1] at hc
   · exact run_equalIn_string w d t _ _ ht
theorem plainF_prefix {P : Program} {T : TypeId → Option (List CK)} : ∀ {fs : List Field} {acc ks : List CK},plainF P T fs acc = some ks → ∃ r,ks = acc ++ r
 | [],acc,ks,h => by simp [plainF] at h; subst h; exact ⟨[],by simp⟩
 | f :: fs,acc,ks,h => by
  simp only [plainF] at h;split at h
  · split at h
    · obtain ⟨r,hr⟩ := plainF_prefix h;rename_i ks' _ _ _ _;exact ⟨ks' ++ r,by rw [hr,List.append_assoc]⟩
    · cases h
  · cases h
theorem eqF_sound {P : Program} {E : Env} {w : World} (T : TypeId → Option (List CK)) (D : Nat)
    (hT : ∀ t ks,T t = some ks → (P.info? t).map (·.size) = some ks.length → ∀ (us vs : List (AV K El)) (xs ys : Array Value) (off : Nat) (b : Bool),CellsR S E w us xs → CellsR S E w vs ys → off + ks.length ≤ us.length → us.length = vs.length →
     kds ks ((us.drop off).take ks.length) = true → eqs ((us.drop off).take ks.length) ((vs.drop off).take ks.length) = some b →
     ∃ x y,(part t xs off).run P w = .ok x w ∧ (part t ys off).run P w = .ok y w ∧ (Op.equalIn D t x y).run P w = .ok b w)
    (us vs : List (AV K El)) (xs ys : Array Value) (hx : CellsR S E w us xs) (hy : CellsR S E w vs ys) (hl : us.length = vs.length) :
    ∀ (fs : List Field) (acc ks : List CK) (b : Bool),plainF P T fs acc = some ks → us.length = ks.length → kds ks us = true → eqs (us.drop acc.length) (vs.drop acc.length) = some b → (Op.eqFields D xs ys fs).run P w = .ok b w
 | [],acc,ks,b,hF,hlen,hk,he => by
  simp [plainF] at hF;subst hF;rw [List.drop_eq_nil_of_le (by omega),List.drop_eq_nil_of_le (by omega)] at he;simp [eqs] at he;subst he;simp [Op.eqFields]
 | f :: fs,acc,ks,b,hF,hlen,hk,he => by
  have hF0 := hF;simp only [plainF] at hF;split at hF
  · rename_i ks' i hks hi;split at hF
    · rename_i hc;obtain ⟨hname,hoff,hsz⟩ := hc;obtain ⟨r,hr⟩ := plainF_prefix hF;obtain ⟨b1,b2,h1,h2,h3⟩ := eqs_split ks'.length he;rw [List.drop_drop,List.drop_drop] at h2
      have hkk : kds ks' ((us.drop acc.length).take ks'.length) = true := by
       rw [hr,List.append_assoc] at hk;exact (kds_append (kds_append hk).2).1
      have hle : acc.length + ks'.length ≤ us.length := by rw [hlen,hr]; simp
      obtain ⟨x,y,p1,p2,p3⟩ := hT f.type ks' hks (by rw [hi]; simp [hsz]) us vs xs ys acc.length b1 hx hy hle hl hkk h1;have ih := eqF_sound T D hT us vs xs ys hx hy hl fs (acc ++ ks') ks b2 hF hlen hk (by simpa using h2);rw [hoff.symm] at p1 p2;simp only [Op.eqFields,Sem.run_ite,Sem.run_bind,p1,p2,p3,Result.andThen_ok,ih];rw [if_pos hname];cases b1 <;> simp [h3]
    · cases hF
  · cases hF
theorem eqA_sound {P : Program} {E : Env} {w : World} (D : Nat) (e : TypeId) (ks : List CK)
    (hT : ∀ (us vs : List (AV K El)) (xs ys : Array Value) (off : Nat) (b : Bool),CellsR S E w us xs → CellsR S E w vs ys → off + ks.length ≤ us.length → us.length = vs.length →
     kds ks ((us.drop off).take ks.length) = true → eqs ((us.drop off).take ks.length) ((vs.drop off).take ks.length) = some b →
     ∃ x y,(part e xs off).run P w = .ok x w ∧ (part e ys off).run P w = .ok y w ∧ (Op.equalIn D e x y).run P w = .ok b w)
    (us vs : List (AV K El)) (xs ys : Array Value) (hx : CellsR S E w us xs) (hy : CellsR S E w vs ys) (hl : us.length = vs.length) :
    ∀ (m j : Nat) (b : Bool),us.length = (j + m) * ks.length → kds (List.replicate m ks).flatten (us.drop (j * ks.length)) = true → eqs (us.drop (j * ks.length)) (vs.drop (j * ks.length)) = some b →
     (Op.eqItems D e ks.length xs ys (List.range' j m)).run P w = .ok b w
 | 0,j,b,hlen,_,he => by
  rw [Nat.add_zero] at hlen;rw [List.drop_eq_nil_of_le (by omega),List.drop_eq_nil_of_le (by omega)] at he;simp [eqs] at he;subst he;simp [Op.eqItems]
 | m + 1,j,b,hlen,hk,he => by
  obtain ⟨b1,b2,h1,h2,h3⟩ := eqs_split ks.length he;rw [List.drop_drop,List.drop_drop,← Nat.succ_mul] at h2
  have hle : j * ks.length + ks.length ≤ us.length := by
   rw [hlen,← Nat.succ_mul];exact Nat.mul_le_mul_right _ (by omega)
  rw [List.replicate_succ,List.flatten_cons] at hk;obtain ⟨hk1,hk2⟩ := kds_append hk;rw [List.drop_drop,← Nat.succ_mul] at hk2;obtain ⟨x,y,p1,p2,p3⟩ := hT us vs xs ys (j * ks.length) b1 hx hy hle hl hk1 h1;have ih := eqA_sound D e ks hT us vs xs ys hx hy hl m (j + 1) b2 (by rw [hlen]; congr 1; omega) hk2 h2;rw [List.range'_succ];simp only [Op.eqItems,Sem.run_bind,p1,p2,p3,Result.andThen_ok];cases b1
  · simp [h3]
  · simpa [h3] using ih
theorem eqT_sound {P : Program} {E : Env} {w : World} : ∀ (d : Nat) (t : TypeId) (ks : List CK),plainT P d t = some ks → (P.info? t).map (·.size) = some ks.length → ∀ (D : Nat),d ≤ D →
    ∀ (us vs : List (AV K El)) (xs ys : Array Value) (off : Nat) (b : Bool),CellsR S E w us xs → CellsR S E w vs ys → off + ks.length ≤ us.length → us.length = vs.length →
     kds ks ((us.drop off).take ks.length) = true → eqs ((us.drop off).take ks.length) ((vs.drop off).take ks.length) = some b →
     ∃ x y,(part t xs off).run P w = .ok x w ∧ (part t ys off).run P w = .ok y w ∧ (Op.equalIn D t x y).run P w = .ok b w
 | 0,t,ks,h => by simp [plainT] at h
 | d + 1,t,ks,h => by
  intro hsz D hD us vs xs ys off b hx hy hle hl hk he;obtain ⟨D,rfl⟩ : ∃ D',D = D' + 1 := ⟨D - 1,by omega⟩
  have scalar : ∀ c : CK,ks = [c] → ((c = .b ∧ P.underlying t = some .bool) ∨ (c = .i ∧ ∃ k,P.underlying t = some (.int k)) ∨ (c = .s ∧ P.underlying t = some .string)) →
      ∃ x y,(part t xs off).run P w = .ok x w ∧ (part t ys off).run P w = .ok y w ∧ (Op.equalIn (D + 1) t x y).run P w = .ok b w := by
   intro c hc ht;subst hc;simp at hle
   have hu : (us.drop off).take [c].length = [us[off]] := by
    show (us.drop off).take 1 = _;rw [List.drop_eq_getElem_cons (by omega)]; rfl
   have hv : (vs.drop off).take [c].length = [vs[off]] := by
    show (vs.drop off).take 1 = _;rw [List.drop_eq_getElem_cons (by omega)]; rfl
   rw [hu,hv] at he;rw [hu] at hk;obtain ⟨x,x1,x2,x3⟩ := hx.2 off us[off] (List.getElem?_eq_getElem _);obtain ⟨y,y1,y2,y3⟩ := hy.2 off vs[off] (List.getElem?_eq_getElem (by omega));simp only [eqs] at he
   cases hq : eq1 us[off] vs[off] with
   | none => simp [hq] at he
   | some b' =>
    simp [hq] at he;subst he;simp [kds] at hk
    have hag : (isAgg t).run P w = .ok false w := by
     rcases ht with ⟨_,ht⟩ | ⟨_,k,ht⟩ | ⟨_,ht⟩ <;> simp [isAgg,run_underlying ht]
    refine ⟨x,y,by simp [part,hag,x1],by simp [part,hag,y1],eq1_sound hq x3 y3 ht hk⟩
  simp only [plainT] at h;split at h
  · rename_i hu; simp at h; exact scalar .b h.symm (.inl ⟨rfl,hu⟩)
  · rename_i k hu; simp at h; exact scalar .i h.symm (.inr (.inl ⟨rfl,k,hu⟩))
  · rename_i hu; simp at h; exact scalar .s h.symm (.inr (.inr ⟨rfl,hu⟩))
  · rename_i fs hu;split at h
    · cases h
    · rename_i hst;have hfs : P.fieldsOf t = fs := by simp [Program.fieldsOf,hu]
      have hag : (isAgg t).run P w = .ok true w := by simp [isAgg,run_underlying hu]
      have hso : (sizeOf t).run P w = .ok ks.length w := by
       cases hi : P.info? t with
       | none => rw [hi] at hsz; simp at hsz
       | some i => rw [hi] at hsz; simp at hsz; simp [sizeOf,typeInfo,hi,hsz]
      refine ⟨.agg (xs.extract off (off + ks.length)),.agg (ys.extract off (off + ks.length)),by simp [part,hag,hso],by simp [part,hag,hso],?_⟩;rw [run_equalIn_struct w D t _ _ (by rw [hfs]; exact hu) (by simpa using hst),hfs];refine eqF_sound (plainT P d) D (fun t' ks' h1 h2 => eqT_sound d t' ks' h1 h2 D (by omega)) _ _ _ _ (hx.sub off ks.length) (hy.sub off ks.length) (by simp; omega) fs.toList [] ks b h (by simp; omega) hk (by simpa using he)
  · rename_i n e hu;split at h
    · rename_i ks' i hks hi;split at h
      · rename_i hc;have hkk : (List.replicate n ks').flatten = ks := by simpa using h
        have hag : (isAgg t).run P w = .ok true w := by simp [isAgg,run_underlying hu]
        have hso : (sizeOf t).run P w = .ok ks.length w := by
         cases hi : P.info? t with
         | none => rw [hi] at hsz; simp at hsz
         | some i => rw [hi] at hsz; simp at hsz; simp [sizeOf,typeInfo,hi,hsz]
        have hce : P.cellsOf e = ks'.length := by simp [Program.cellsOf,hi,hc]
        have hkl : ks.length = n * ks'.length := by rw [← hkk]; simp
        refine ⟨.agg (xs.extract off (off + ks.length)),.agg (ys.extract off (off + ks.length)),by simp [part,hag,hso],by simp [part,hag,hso],?_⟩;rw [run_equalIn_array w D _ _ hu hi,hce,List.range_eq_range']
        exact eqA_sound D e ks' (fun us vs xs ys off b h1 h2 h3 h4 h5 h6 => eqT_sound d e ks' hks (by rw [hi]; simp [hc]) D (by omega) us vs xs ys off b h1 h2 h3 h4 h5 h6) _ _ _ _ (hx.sub off ks.length) (hy.sub off ks.length) (by simp; omega) n 0 b
         (by simp; omega) (by rw [hkk,Nat.zero_mul,List.drop_zero]; exact hk) (by rw [Nat.zero_mul,List.drop_zero,List.drop_zero]; exact he)
      · cases h
    · cases h
  · cases h
end Sh
end Go.Proofs.YtomdfaelgcefdaaGreatDoor
