/- Sh2 Sh3 Sh4 Sh5. -/
import Derived.Laws.AppendOwnNone
import Derived.Test.YtomdfaelgcefdaaGreatDoorGaa
set_option maxRecDepth 100000
set_option maxHeartbeats 64000000
namespace Go.Proofs.YtomdfaelgcefdaaGreatDoor
open Go
namespace Sh
variable {K : Type} {El : K → Type}
structure Env where
 ρ : List Loc
 F : Nat → Prop
def Stable (E : Env) (b : Nat) : Prop := (∀ i : Nat,E.ρ[i]? ≠ some (.blk b)) ∧ ¬ E.F b
inductive VR (S : Seat K El) (E : Env) (w : World) : AV K El → Value → Prop where
 | junk (v : Value) : VR S E w .junk v
 | cell (v : Value) (h : v.oneCell' = true) : VR S E w .cell v
 | bool (b : Bool) : VR S E w (.bool b) (.bool b)
 | int (k : IntKind) (n : Int) : VR S E w (.int k n) (.int k n)
 | str (s : ByteArray) : VR S E w (.str s) (.string s)
 | nilp : VR S E w .nilp (.pointer none)
 | ptr {i off b : Nat} (h : E.ρ[i]? = some (.blk b)) : VR S E w (.ptr i off) (.pointer (some ⟨b,off,none⟩))
 | ptrGone {i off : Nat} {v : Value} (h : E.ρ[i]? = some .gone) (hv : v.oneCell' = true) : VR S E w (.ptr i off) v
 | eptr {k : K} {i e off b : Nat} (h : E.ρ[i]? = some (.blk b)) : VR S E w (.eptr k i e off) (.pointer (some ⟨b,e * S.size k + off,none⟩))
 | eptrGone {k : K} {i e off : Nat} {v : Value} (h : E.ρ[i]? = some .gone) (hv : v.oneCell' = true) : VR S E w (.eptr k i e off) v
 | iptr {k : K} {xs : List (El k)} {e off : Nat} (b o : Nat) (cs : Nat → Value) (hs : xs ≠ [] → Stable E b)
     (hc : ∀ n,n < xs.length * S.size k → w.cell? ⟨b,o + n,none⟩ = some (cs n))
     (hv : ∀ (j : Nat) x (t : Nat) u,xs[j]? = some x → (S.enc k x)[t]? = some u → VR S E w u (cs (j * S.size k + t))) :
     VR S E w (.iptr k xs e off) (.pointer (some ⟨b,o + (e * S.size k + off),none⟩))
 | nils : VR S E w .nils (.slice none 0 0)
 | own {k : K} {i lo len : Nat} {c : Cp} {b o cap : Nat} (h : E.ρ[i]? = some (.blk b)) (hf : c = .full → cap = len)
     (hw : c = .whole → ∃ e,w.shape? b = some (e,(lo + cap) * S.size k)) (hle : len ≤ cap) (hm : cap ≤ maxLen)
     (ho : o = lo * S.size k ∨ (lo ≠ 0 ∧ len = 0 ∧ cap = 0)) : VR S E w (.own k i lo len c) (.slice (some ⟨b,o,none⟩) len cap)
 | ownNil {k : K} {i : Nat} {c : Cp} (h : E.ρ[i]? = some .nil) : VR S E w (.own k i 0 0 c) (.slice none 0 0)
 | ownGone {k : K} {i lo len : Nat} {c : Cp} {v : Value} (h : E.ρ[i]? = some .gone) (hv : v.oneCell' = true) : VR S E w (.own k i lo len c) v
 | imm {k : K} {xs : List (El k)} (b o cap : Nat) (cs : Nat → Value) (hs : xs ≠ [] → Stable E b) (hle : xs.length ≤ cap) (hm : cap ≤ maxLen)
     (hc : ∀ n,n < xs.length * S.size k → w.cell? ⟨b,o + n,none⟩ = some (cs n))
     (hv : ∀ (j : Nat) x (t : Nat) u,xs[j]? = some x → (S.enc k x)[t]? = some u → VR S E w u (cs (j * S.size k + t))) :
     VR S E w (.imm k xs) (.slice (some ⟨b,o,none⟩) xs.length cap)
 | immNil {k : K} (A : Option Addr) (cap : Nat) (hm : cap ≤ maxLen) : VR S E w (.imm k []) (.slice A 0 cap)
 | fn (f : Nat) : VR S E w (.fn f) (.func (.func f) #[] #[])
 | clo {f : Nat} {is : List (Option Nat)} {cs : Array Value} (hl : cs.size = is.length) (hn : ∀ j : Nat,is[j]? = some none → cs[j]? = some (.pointer none))
     (hp : ∀ j i : Nat,is[j]? = some (some i) → ∃ b,E.ρ[i]? = some (.blk b) ∧ cs[j]? = some (.pointer (some ⟨b,0,none⟩))) : VR S E w (.clo f is) (.func (.func f) #[] cs)
 | cloGone {f i : Nat} {is : List (Option Nat)} {v : Value} (hi : some i ∈ is) (h : E.ρ[i]? = some .gone) (hv : v.oneCell' = true) : VR S E w (.clo f is) v
 | nilfn : VR S E w .nilfn .nilFunc
 | mp {i b : Nat} (h : E.ρ[i]? = some (.blk b)) : VR S E w (.mp i) (.map (some b))
 | mpGone {i : Nat} {v : Value} (h : E.ρ[i]? = some .gone) (hv : v.oneCell' = true) : VR S E w (.mp i) v
 | nilmap : VR S E w .nilmap (.map none)
theorem AV.data_one {u : AV K El} (h : u.data = true) : u.one = true := by cases u <;> first | rfl | simp [AV.data] at h
theorem VR.of_data {S : Seat K El} {E E' : Env} {w w' : World} {u : AV K El} {v : Value} (h : VR S E w u v) (hu : u.data = true) : VR S E' w' u v := by
 cases h <;> first | (simp [AV.data] at hu; done) | constructor
def VR2 (S : Seat K El) (E : Env) (w : World) : AV K El → Value → Prop
 | .agg us,v => ∃ cs : Array Value,v = .agg cs ∧ cs.size = us.length ∧ ∀ (j : Nat) u,us[j]? = some u → ∃ c,cs[j]? = some c ∧ u.one = true ∧ VR S E w u c
 | u,v => VR S E w u v
def VRv (S : Seat K El) (E : Env) (w : World) : AV K El → Value → Prop
 | .tup us,v => ∃ cs : Array Value,v = .tuple cs ∧ cs.size = us.length ∧ ∀ (j : Nat) u,us[j]? = some u → ∃ c,cs[j]? = some c ∧ VR2 S E w u c
 | u,v => VR2 S E w u v
def OR (S : Seat K El) (E : Env) (w : World) : AO K El → Loc → Prop
 | .gone,_ => True
 | .cells vs,.blk b => ∃ c e,w.heap[b]? = some (.cells c e (0,0)) ∧ c.size = vs.length ∧ ∀ (j : Nat) u,vs[j]? = some u → ∃ v,c[j]? = some v ∧ u.one = true ∧ VR S E w u v
 | .row k xs,.blk b => ∃ c,w.heap[b]? = some (.cells c (S.ty k) (0,0)) ∧ xs.length * S.size k ≤ c.size ∧
     ∀ (j : Nat) x,xs[j]? = some x → ∀ (t : Nat) u,(S.enc k x)[t]? = some u → ∃ v,c[j * S.size k + t]? = some v ∧ VR S E w u v
 | .row _ xs,.nil => xs = []
 | .arr k xs,.blk b => ∃ c e,w.heap[b]? = some (.cells c e (0,0)) ∧ c.size = xs.length * S.size k ∧
     ∀ (j : Nat) x,xs[j]? = some x → ∀ (t : Nat) u,(S.enc k x)[t]? = some u → ∃ v,c[j * S.size k + t]? = some v ∧ VR S E w u v
 | .siter s pos,.blk b => w.heap[b]? = some (.stringIter s pos)
 | .rowx k xs e vs,.blk b => ∃ c,w.heap[b]? = some (.cells c (S.ty k) (0,0)) ∧ xs.length * S.size k ≤ c.size ∧ e < xs.length ∧ vs.length = S.size k ∧
     (∀ (j : Nat) x,j ≠ e → xs[j]? = some x → ∀ (t : Nat) u,(S.enc k x)[t]? = some u → ∃ v,c[j * S.size k + t]? = some v ∧ VR S E w u v) ∧
     ∀ (t : Nat) u,vs[t]? = some u → ∃ v,c[e * S.size k + t]? = some v ∧ u.one = true ∧ VR S E w u v
 | .map es,.blk b => ∃ es' clock,w.heap[b]? = some (.map es' clock) ∧ es'.size = es.length ∧
     ∀ (j : Nat) e,es[j]? = some e → ∃ e',es'[j]? = some e' ∧ e.1.data = true ∧ e.2.data = true ∧ VR S E w e.1 e'.key ∧ VR S E w e.2 e'.val
 | .miter i,.blk b => ∃ m since clock,w.heap[b]? = some (.mapIter (some m) since #[] clock) ∧ (E.ρ[i]? = some (.blk m) ∨ E.ρ[i]? = some .gone)
 | _,_ => False
structure GL (S : Seat K El) (E : Env) (w : World) : Prop where
 inv : S.inv w
 lt : ∀ b ∈ S.glb,b < w.heap.size
 st : ∀ b ∈ S.glb,Stable E b
structure Emb (S : Seat K El) (E : Env) (H : Heap K El) (w : World) : Prop where
 len : E.ρ.length = H.length
 obj : ∀ (i : Nat) (o : AO K El) (l : Loc),H[i]? = some o → E.ρ[i]? = some l → OR S E w o l
 inj : ∀ (i j b : Nat),E.ρ[i]? = some (.blk b) → E.ρ[j]? = some (.blk b) → i = j
 lt : ∀ (i b : Nat),E.ρ[i]? = some (.blk b) → b < w.heap.size
 F : ∀ b,E.F b → b < w.heap.size ∧ ∀ i : Nat,E.ρ[i]? ≠ some (.blk b)
 gl : GL S E w
structure Ext (E : Env) (w : World) (E' : Env) (w' : World) : Prop where
 size : w.heap.size ≤ w'.heap.size
 keep : ∀ b,b < w.heap.size → (∀ i : Nat,E.ρ[i]? ≠ some (.blk b)) → w'.heap[b]? = w.heap[b]?
 shape : ∀ b s,w.shape? b = some s → w'.shape? b = some s
 mono : ∀ (i : Nat) (l : Loc),E.ρ[i]? = some l → E'.ρ[i]? = some l ∨ E'.ρ[i]? = some .gone
 fresh : ∀ (i b : Nat),E'.ρ[i]? = some (.blk b) → (∃ j : Nat,E.ρ[j]? = some (.blk b)) ∨ w.heap.size ≤ b
 F : E'.F = E.F
 os : w'.os = w.os
 tape : w'.tape = w.tape
 output : w'.output = w.output
structure Ok (S : Seat K El) : Prop where
 enc_len : ∀ k x,(S.enc k x).length = S.size k
 unc_enc : ∀ k vs x,S.unc k vs = some x → S.enc k x = vs
 one : ∀ k x u,u ∈ S.enc k x → u.one = true
 pos : ∀ k,0 < S.size k
 info : ∀ k,∃ i z,S.P.info? (S.ty k) = some i ∧ i.size = S.size k ∧ i.zero = some z ∧ z.cells.size = S.size k ∧ i.bytes = S.bytes k ∧
  (z.cells.toList.mapM constAV : Option (List (AV K El))) = some (S.enc k (S.zero k))
 kd : ∀ t k,S.kd t = some k → t = S.ty k
 free : ∀ k x u,u ∈ S.enc k x → u.free = true
 flat : ∀ k x,S.flat k = true → ∀ u ∈ S.enc k x,pure1 u = true
 mixed : S.P.follows .mixedOrders = true
 keep : ∀ w w' : World,(∀ b ∈ S.glb,w'.heap[b]? = w.heap[b]?) → S.inv w → S.inv w'
theorem Ext.refl {E : Env} {w : World} : Ext E w E w :=
 ⟨Nat.le_refl _,fun _ _ _ => rfl,fun _ _ h => h,fun _ _ h => .inl h,fun i _ h => .inl ⟨i,h⟩,rfl,rfl,rfl,rfl⟩
theorem Ext.trans {E E1 E2 : Env} {w w1 w2 : World} (h : Ext E w E1 w1) (h' : Ext E1 w1 E2 w2) : Ext E w E2 w2 where
 size := Nat.le_trans h.size h'.size
 keep b hb hn := by
  rw [h'.keep b (Nat.lt_of_lt_of_le hb h.size) ?_,h.keep b hb hn];intro i hi
  rcases h.fresh i b hi with ⟨j,hj⟩ | hle
  · exact hn j hj
  · omega
 shape b s hs := h'.shape b s (h.shape b s hs)
 mono i l hl := by
  rcases h.mono i l hl with h1 | h1
  · exact h'.mono i l h1
  · rcases h'.mono i _ h1 with h2 | h2 <;> exact .inr h2
 fresh i b hb := by
  rcases h'.fresh i b hb with ⟨j,hj⟩ | hle
  · exact h.fresh j b hj
  · exact .inr (Nat.le_trans h.size hle)
 F := h'.F.trans h.F
 os := h'.os.trans h.os
 tape := h'.tape.trans h.tape
 output := h'.output.trans h.output
theorem lt_of_cell {w : World} {b o : Nat} {v : Value} (h : w.cell? ⟨b,o,none⟩ = some v) : b < w.heap.size :=
 World.block_lt_of_cell? w _ h
theorem cell_of_heap {w w' : World} {b o : Nat} (h : w'.heap[b]? = w.heap[b]?) : w'.cell? ⟨b,o,none⟩ = w.cell? ⟨b,o,none⟩ := by
 simp [World.cell?,h]
theorem Stable.ext {E E' : Env} {w w' : World} (h : Ext E w E' w') {b : Nat} (hb : b < w.heap.size) (hs : Stable E b) : Stable E' b := by
 refine ⟨fun i hi => ?_,by rw [h.F]; exact hs.2⟩
 rcases h.fresh i b hi with ⟨j,hj⟩ | hle
 · exact hs.1 j hj
 · omega
theorem VR.oneCell {S : Seat K El} {E : Env} {w : World} {u : AV K El} {v : Value} (h : VR S E w u v) (hu : u.one = true) : v.oneCell' = true := by
 cases h <;> first | rfl | assumption | (simp [AV.one] at hu)
theorem GL.ext {S : Seat K El} (ok : Ok S) {E E' : Env} {w w' : World} (h : GL S E w) (hx : Ext E w E' w') : GL S E' w' :=
 ⟨ok.keep w w' (fun b hb => hx.keep b (h.lt b hb) (h.st b hb).1) h.inv,fun b hb => Nat.lt_of_lt_of_le (h.lt b hb) hx.size,fun b hb => (h.st b hb).ext hx (h.lt b hb)⟩
section
variable {S : Seat K El} (ok : Ok S) {E E' : Env} {w w' : World}
include ok
theorem VR.mono (h : Ext E w E' w') {u : AV K El} {v : Value} (hv : VR S E w u v) : VR S E' w' u v := by
 induction hv with
 | junk v => exact .junk v
 | cell v hv => exact .cell v hv
 | bool b => exact .bool b
 | int k n => exact .int k n
 | str s => exact .str s
 | nilp => exact .nilp
 | ptr hi => rcases h.mono _ _ hi with h1 | h1; exact .ptr h1; exact .ptrGone h1 rfl
 | ptrGone hi hv => rcases h.mono _ _ hi with h1 | h1 <;> exact .ptrGone h1 hv
 | eptr hi => rcases h.mono _ _ hi with h1 | h1; exact .eptr h1; exact .eptrGone h1 rfl
 | eptrGone hi hv => rcases h.mono _ _ hi with h1 | h1 <;> exact .eptrGone h1 hv
 | @iptr k xs e off b o cs hs hc hv ih =>
  have hpos := ok.pos k
  have hkeep : xs ≠ [] → b < w.heap.size ∧ w'.heap[b]? = w.heap[b]? := by
   intro hne;have hl : 0 < xs.length := List.length_pos_iff.2 hne;have hb := lt_of_cell (hc 0 (Nat.mul_pos hl hpos));exact ⟨hb,h.keep b hb (hs hne).1⟩
  have hne : ∀ n,n < xs.length * S.size k → xs ≠ [] := by rintro n hn rfl; simp at hn
  refine .iptr b o cs (fun hx => (hs hx).ext h (hkeep hx).1) (fun n hn => ?_) ih;rw [cell_of_heap (hkeep (hne n hn)).2]; exact hc n hn
 | nils => exact .nils
 | own hi hf hw hle hm ho =>
  rcases h.mono _ _ hi with h1 | h1
  · exact .own h1 hf (fun hc => let ⟨e,he⟩ := hw hc; ⟨e,h.shape _ _ he⟩) hle hm ho
  · exact .ownGone h1 rfl
 | ownNil hi => rcases h.mono _ _ hi with h1 | h1; exact .ownNil h1; exact .ownGone h1 rfl
 | ownGone hi hv => rcases h.mono _ _ hi with h1 | h1 <;> exact .ownGone h1 hv
 | @imm k xs b o cap cs hs hle hm hc hv ih =>
  have hpos := ok.pos k
  have hkeep : xs ≠ [] → b < w.heap.size ∧ w'.heap[b]? = w.heap[b]? := by
   intro hne;have hl : 0 < xs.length := List.length_pos_iff.2 hne;have hb := lt_of_cell (hc 0 (Nat.mul_pos hl hpos));exact ⟨hb,h.keep b hb (hs hne).1⟩
  have hne : ∀ n,n < xs.length * S.size k → xs ≠ [] := by rintro n hn rfl; simp at hn
  refine .imm b o cap cs (fun hx => (hs hx).ext h (hkeep hx).1) hle hm (fun n hn => ?_) ih;rw [cell_of_heap (hkeep (hne n hn)).2]; exact hc n hn
 | immNil A cap hm => exact .immNil A cap hm
 | fn f => exact .fn f
 | @clo f is cs hl hn hp =>
  by_cases hg : ∃ i,some i ∈ is ∧ E'.ρ[i]? = some .gone
  · obtain ⟨i,hi,hg⟩ := hg;exact .cloGone hi hg rfl
  · refine .clo hl hn fun j i hj => ?_;obtain ⟨b,hb,hc⟩ := hp j i hj
    rcases h.mono _ _ hb with h1 | h1
    · exact ⟨b,h1,hc⟩
    · exact absurd ⟨i,List.mem_of_getElem? hj,h1⟩ hg
 | cloGone hi hg hv => rcases h.mono _ _ hg with h1 | h1 <;> exact .cloGone hi h1 hv
 | nilfn => exact .nilfn
 | mp hi => rcases h.mono _ _ hi with h1 | h1; exact .mp h1; exact .mpGone h1 rfl
 | mpGone hi hv => rcases h.mono _ _ hi with h1 | h1 <;> exact .mpGone h1 hv
 | nilmap => exact .nilmap
theorem VR2.mono (h : Ext E w E' w') {u : AV K El} {v : Value} (hv : VR2 S E w u v) : VR2 S E' w' u v := by
 cases u
 case agg us =>
  obtain ⟨cs,rfl,hl,hc⟩ := hv;exact ⟨cs,rfl,hl,fun j u hu => let ⟨c,h1,h2,h3⟩ := hc j u hu; ⟨c,h1,h2,VR.mono ok h h3⟩⟩
 all_goals exact VR.mono ok h hv
theorem VRv.mono (h : Ext E w E' w') {u : AV K El} {v : Value} (hv : VRv S E w u v) : VRv S E' w' u v := by
 cases u
 case tup us =>
  obtain ⟨cs,rfl,hl,hc⟩ := hv;exact ⟨cs,rfl,hl,fun j u hu => let ⟨c,h1,h2⟩ := hc j u hu; ⟨c,h1,VR2.mono ok h h2⟩⟩
 case agg us => exact VR2.mono ok h (u := .agg us) hv
 all_goals exact VR.mono ok h hv
end
end Sh
end Go.Proofs.YtomdfaelgcefdaaGreatDoor
namespace Go.Proofs.YtomdfaelgcefdaaGreatDoor
open Go
namespace Sh
variable {K : Type} {El : K → Type} {S : Seat K El}
theorem mem_of_getElem? {α : Type} {l : List α} {i : Nat} {x : α} (h : l[i]? = some x) : x ∈ l := List.mem_of_getElem? h
theorem VR.of_free (ok : Ok S) {E E' : Env} {w : World} (hst : ∀ b,Stable E b → Stable E' b) {u : AV K El} {v : Value} (h : VR S E w u v) (hu : u.free = true) : VR S E' w u v := by
 induction h with
 | junk v => exact .junk v
 | cell v hv => exact .cell v hv
 | bool b => exact .bool b
 | int k n => exact .int k n
 | str s => exact .str s
 | nilp => exact .nilp
 | iptr b o cs hs hc hv ih => exact .iptr b o cs (fun h => hst _ (hs h)) hc fun j x t u hx hu => ih j x t u hx hu (ok.free _ _ _ (mem_of_getElem? hu))
 | nils => exact .nils
 | imm b o cap cs hs hle hm hc hv ih => exact .imm b o cap cs (fun h => hst _ (hs h)) hle hm hc fun j x t u hx hu => ih j x t u hx hu (ok.free _ _ _ (mem_of_getElem? hu))
 | immNil A cap hm => exact .immNil A cap hm
 | fn f => exact .fn f
 | nilfn => exact .nilfn
 | nilmap => exact .nilmap
 | ptr _ | ptrGone _ _ | eptr _ | eptrGone _ _ | own _ _ _ _ _ _ | ownNil _ | ownGone _ _ | clo _ _ _ | cloGone _ _ _ | mp _ | mpGone _ _ => simp [AV.free] at hu
structure Sub (S : Seat K El) (E : Env) (H : Heap K El) (w : World) (ids lent : List Nat) (E' : Env) : Prop where
 emb : Emb S E H w
 nodup : ids.Nodup
 lt : ∀ i ∈ ids,i < H.length
 ρ : E'.ρ = ids.map fun i => E.ρ.getD i .gone
 st : ∀ b,Stable E b → Stable E' b
 lent : ∀ i b,i ∈ lent → i ∉ ids → E.ρ[i]? = some (.blk b) → Stable E' b
 F : ∀ b,E'.F b → b < w.heap.size ∧ ∀ i : Nat,E'.ρ[i]? ≠ some (.blk b)
theorem idxOf?_some {ids : List Nat} {i j : Nat} (h : ids.idxOf? i = some j) : ids[j]? = some i := by
 induction ids generalizing j with
 | nil => simp at h
 | cons a l ih =>
  rw [List.idxOf?_cons] at h
  by_cases ha : a = i
  · simp [ha] at h; subst h; simp [ha]
  · have hb : (a == i) = false := by simpa using ha
    simp only [hb,Bool.false_eq_true,if_false] at h
    cases hq : l.idxOf? i with
    | none => simp [hq] at h
    | some q => simp [hq] at h; subst h; simpa using ih hq
theorem idxOf?_none {ids : List Nat} {i : Nat} (h : ids.idxOf? i = none) : i ∉ ids := by
 intro hm
 induction ids with
 | nil => simp at hm
 | cons a l ih =>
  rw [List.idxOf?_cons] at h
  by_cases ha : a = i
  · simp [ha] at h
  · have hb : (a == i) = false := by simpa using ha
    simp only [hb,Bool.false_eq_true,if_false,Option.map_eq_none_iff] at h
    rcases List.mem_cons.1 hm with he | hm
    · exact ha he.symm
    · exact ih h hm
section
variable {E E' : Env} {H : Heap K El} {w : World} {ids lent : List Nat}
theorem Sub.at_ (h : Sub S E H w ids lent E') {i j : Nat} {l : Loc} (hj : ids[j]? = some i) (hl : E.ρ[i]? = some l) : E'.ρ[j]? = some l := by
 rw [h.ρ,List.getElem?_map,hj];simp [List.getD,hl]
theorem locIs_some {ids : List Nat} : ∀ {is js : List (Option Nat)},locIs ids is = some js → js.length = is.length ∧ (∀ j : Nat,js[j]? = some none → is[j]? = some none) ∧
    ∀ j q : Nat,js[j]? = some (some q) → ∃ i,is[j]? = some (some i) ∧ ids.idxOf? i = some q
 | [],js,h => by simp only [locIs,Option.some.injEq] at h; subst h; exact ⟨rfl,fun j h => by simp at h,fun j q h => by simp at h⟩
 | none :: r,js,h => by
  simp only [locIs] at h;split at h
  · rename_i js' hj;simp only [Option.some.injEq] at h;subst h;obtain ⟨h1,h2,h3⟩ := locIs_some hj;refine ⟨by simp [h1],fun j hq => ?_,fun j q hq => ?_⟩
    · cases j with
      | zero => rfl
      | succ j => exact h2 j (by simpa using hq)
    · cases j with
      | zero => simp at hq
      | succ j => exact h3 j q (by simpa using hq)
  · cases h
 | some i :: r,js,h => by
  simp only [locIs] at h;split at h
  · rename_i q0 js' hi hj;simp only [Option.some.injEq] at h;subst h;obtain ⟨h1,h2,h3⟩ := locIs_some hj;refine ⟨by simp [h1],fun j hq => ?_,fun j q hq => ?_⟩
    · cases j with
      | zero => simp at hq
      | succ j => exact h2 j (by simpa using hq)
    · cases j with
      | zero => simp at hq; subst hq; exact ⟨i,rfl,hi⟩
      | succ j => exact h3 j q (by simpa using hq)
  · cases h
theorem locIs_mem {ids : List Nat} : ∀ {is js : List (Option Nat)},locIs ids is = some js → ∀ {i : Nat},some i ∈ is → ∃ q,some q ∈ js ∧ ids.idxOf? i = some q
 | [],js,h,i,hi => by simp at hi
 | none :: r,js,h,i,hi => by
  simp only [locIs] at h;split at h
  · rename_i js' hj;simp only [Option.some.injEq] at h;subst h;obtain ⟨q,h1,h2⟩ := locIs_mem hj (i := i) (by simpa using hi);exact ⟨q,List.mem_cons_of_mem _ h1,h2⟩
  · cases h
 | some i0 :: r,js,h,i,hi => by
  simp only [locIs] at h;split at h
  · rename_i q0 js' hi0 hj;simp only [Option.some.injEq] at h;subst h
    rcases List.mem_cons.1 hi with he | hi
    · simp only [Option.some.injEq] at he;subst he;exact ⟨q0,by simp,hi0⟩
    · obtain ⟨q,h1,h2⟩ := locIs_mem hj hi;exact ⟨q,List.mem_cons_of_mem _ h1,h2⟩
  · cases h
theorem loc1_VR (ok : Ok S) (h : Sub S E H w ids lent E') {u : AV K El} {v : Value} (hu : ok1 H ids lent u) (hv : VR S E w u v) : VR S E' w (loc1 H ids lent u) v := by
 cases hv with
 | junk v => exact .junk v
 | cell v hv => exact .cell v hv
 | bool b => exact .bool b
 | int k n => exact .int k n
 | str s => exact .str s
 | nilp => exact .nilp
 | nils => exact .nils
 | fn f => exact .fn f
 | nilfn => exact .nilfn
 | nilmap => exact .nilmap
 | clo hl hn hp =>
  simp only [loc1];split
  · rename_i js hj;obtain ⟨h1,h2,h3⟩ := locIs_some hj;refine .clo (by omega) (fun j hq => hn j (h2 j hq)) fun j q hq => ?_;obtain ⟨i,hi,hx⟩ := h3 j q hq;obtain ⟨b,hb,hc⟩ := hp j i hi;exact ⟨b,h.at_ (idxOf?_some hx) hb,hc⟩
  · exact .cell _ rfl
 | cloGone hi hg hv =>
  simp only [loc1];split
  · rename_i js hj;obtain ⟨q,hq,hx⟩ := locIs_mem hj hi;exact .cloGone hq (h.at_ (idxOf?_some hx) hg) hv
  · exact .cell _ hv
 | mp hi =>
  simp only [loc1];split
  · rename_i j hj; exact .mp (h.at_ (idxOf?_some hj) hi)
  · exact .cell _ rfl
 | mpGone hi hv =>
  simp only [loc1];split
  · rename_i j hj; exact .mpGone (h.at_ (idxOf?_some hj) hi) hv
  · exact .cell _ hv
 | immNil A cap hm => exact .immNil A cap hm
 | iptr b o cs hs hc hv => exact VR.of_free ok h.st (.iptr b o cs hs hc hv) rfl
 | imm b o cap cs hs hle hm hc hv => exact VR.of_free ok h.st (.imm b o cap cs hs hle hm hc hv) rfl
 | ptr hi =>
  simp only [loc1];split
  · rename_i j hj; exact .ptr (h.at_ (idxOf?_some hj) hi)
  · exact .cell _ rfl
 | ptrGone hi hv =>
  simp only [loc1];split
  · rename_i j hj; exact .ptrGone (h.at_ (idxOf?_some hj) hi) hv
  · exact .cell _ hv
 | @eptr k i e off b hi =>
  simp only [loc1];split
  · rename_i j hj; exact .eptr (h.at_ (idxOf?_some hj) hi)
  · rename_i hj;split
    · rename_i hl;split
      · rename_i kr xs hx;simp only [ok1,hj,hl,hx,if_true] at hu;subst hu;obtain ⟨c,hc,hsz,hcs⟩ : OR S E w (.row kr xs) (.blk b) := h.emb.obj i _ _ hx hi;have hst := h.lent i b (by simpa using hl) (idxOf?_none hj) hi;have hz : e * S.size kr + off = 0 + (e * S.size kr + off) := by omega
        rw [hz];refine .iptr b 0 (fun n => c.getD n undef) (fun _ => hst) (fun n hn => ?_) (fun j x t u hx hu => ?_)
        · have hlt : n < c.size := by omega
          simp [World.cell?,hc,Array.getD,hlt]
        · obtain ⟨v,h1,h2⟩ := hcs j x hx t u hu;have : c.getD (j * S.size kr + t) undef = v := by rw [Array.getD_eq_getD_getElem?,h1]; rfl
          rw [this];exact VR.of_free ok h.st h2 (ok.free _ _ _ (mem_of_getElem? hu))
      · exact .cell _ rfl
    · exact .cell _ rfl
 | eptrGone hi hv =>
  rename_i k i e off;simp only [loc1];split
  · rename_i j hj; exact .eptrGone (h.at_ (idxOf?_some hj) hi) hv
  · split
    · split
      · rename_i kr xs hx;exact ((h.emb.obj i _ _ hx hi : OR S E w (.row kr xs) .gone)).elim
      · exact .cell _ hv
    · exact .cell _ hv
 | @own k i lo len c b o cap hi hf hw hle hm ho =>
  simp only [loc1];split
  · rename_i j hj; exact .own (h.at_ (idxOf?_some hj) hi) hf hw hle hm ho
  · rename_i hj;split
    · rename_i hl;split
      · rename_i kr xs hx;simp only [ok1,hj,hl,hx,if_true] at hu;obtain ⟨rfl,hlen⟩ := hu;obtain ⟨cc,hc,hsz,hcs⟩ : OR S E w (.row kr xs) (.blk b) := h.emb.obj i _ _ hx hi;have hst := h.lent i b (by simpa using hl) (idxOf?_none hj) hi;have hll : ((xs.drop lo).take len).length = len := by simp; omega
        have hgo : VR S E' w (.imm kr ((xs.drop lo).take len)) (.slice (some ⟨b,o,none⟩) ((xs.drop lo).take len).length cap) := by
         refine .imm b o cap (fun n => cc.getD (o + n) undef) (fun _ => hst) (by omega) hm (fun n hn => ?_) (fun j x t u hx hu => ?_)
         · rw [hll] at hn
           have ho' : o = lo * S.size kr := by
            rcases ho with ho | ⟨_,h0,_⟩
            · exact ho
            · rw [h0] at hn; simp at hn
           have hmul : lo * S.size kr + len * S.size kr ≤ xs.length * S.size kr := by rw [← Nat.add_mul]; exact Nat.mul_le_mul_right _ hlen
           have hlt : o + n < cc.size := by omega
           simp [World.cell?,hc,Array.getD,hlt]
         · have hjl : j < len := by
            have := (List.getElem?_eq_some_iff.1 hx).1;omega
           have hx' : xs[lo + j]? = some x := by
            rw [List.getElem?_take] at hx;simp only [hjl,if_true,List.getElem?_drop] at hx;exact hx
           have ho' : o = lo * S.size kr := by
            rcases ho with ho | ⟨_,h0,_⟩
            · exact ho
            · omega
           obtain ⟨v,h1,h2⟩ := hcs (lo + j) x hx' t u hu;have he : o + (j * S.size kr + t) = (lo + j) * S.size kr + t := by rw [ho',Nat.add_mul]; omega
           have : cc.getD (o + (j * S.size kr + t)) undef = v := by rw [he,Array.getD_eq_getD_getElem?,h1]; rfl
           rw [this];exact VR.of_free ok h.st h2 (ok.free _ _ _ (mem_of_getElem? hu))
        rw [hll] at hgo;exact hgo
      · exact .cell _ rfl
    · exact .cell _ rfl
 | ownNil hi =>
  rename_i k i c;simp only [loc1];split
  · rename_i j hj; exact .ownNil (h.at_ (idxOf?_some hj) hi)
  · split
    · split
      · rename_i kr xs hx;have : xs = [] := h.emb.obj i _ _ hx hi;subst this;exact .immNil none 0 (Nat.zero_le _)
      · exact .cell _ rfl
    · exact .cell _ rfl
 | ownGone hi hv =>
  rename_i k i lo len c;simp only [loc1];split
  · rename_i j hj; exact .ownGone (h.at_ (idxOf?_some hj) hi) hv
  · split
    · split
      · rename_i kr xs hx;exact ((h.emb.obj i _ _ hx hi : OR S E w (.row kr xs) .gone)).elim
      · exact .cell _ hv
    · exact .cell _ hv
theorem loc1_one {u : AV K El} (h : u.one = true) : (loc1 H ids lent u).one = true := by
 cases u <;> simp only [loc1] <;> first | exact h | (repeat' split) <;> rfl
theorem okL_at {us : List (AV K El)} (h : okL H ids lent us) {j : Nat} {u : AV K El} (hu : us[j]? = some u) : ok1 H ids lent u := by
 induction us generalizing j with
 | nil => simp at hu
 | cons a l ih =>
  cases j with
  | zero => simp at hu; subst hu; exact h.1
  | succ j => exact ih h.2 (by simpa using hu)
theorem okT_at {us : List (AV K El)} (h : okT H ids lent us) {j : Nat} {u : AV K El} (hu : us[j]? = some u) : ok2 H ids lent u := by
 induction us generalizing j with
 | nil => simp at hu
 | cons a l ih =>
  cases j with
  | zero => simp at hu; subst hu; exact h.1
  | succ j => exact ih h.2 (by simpa using hu)
def AV.plain : AV K El → Bool
 | .agg _ | .tup _ => false
 | _ => true
theorem VR2_plain {u : AV K El} (hu : u.plain = true) {v : Value} : VR2 S E w u v = VR S E w u v := by
 cases u <;> first | rfl | simp [AV.plain] at hu
theorem VRv_plain {u : AV K El} (hu : u.plain = true) {v : Value} : VRv S E w u v = VR S E w u v := by
 cases u <;> first | rfl | simp [AV.plain] at hu
theorem ok2_plain {u : AV K El} (hu : u.plain = true) : ok2 H ids lent u = ok1 H ids lent u := by
 cases u <;> first | rfl | simp [AV.plain] at hu
theorem loc2_plain {u : AV K El} (hu : u.plain = true) : loc2 H ids lent u = loc1 H ids lent u := by
 cases u <;> first | rfl | simp [AV.plain] at hu
theorem loc1_plain {u : AV K El} (hu : u.plain = true) : (loc1 H ids lent u).plain = true := by
 cases u <;> simp only [loc1] <;> first | exact hu | (repeat' split) <;> rfl
theorem loc2_VR (ok : Ok S) (h : Sub S E H w ids lent E') {u : AV K El} {v : Value} (hu : ok2 H ids lent u) (hv : VR2 S E w u v) : VR2 S E' w (loc2 H ids lent u) v := by
 cases hp : u.plain with
 | true =>
  rw [VR2_plain hp] at hv;rw [ok2_plain hp] at hu;rw [loc2_plain hp,VR2_plain (loc1_plain hp)];exact loc1_VR ok h hu hv
 | false =>
  cases u <;> simp [AV.plain] at hp
  case agg cs =>
   obtain ⟨a,rfl,hl,hc⟩ := hv;refine ⟨a,rfl,by simpa using hl,fun j u hj => ?_⟩;rw [List.getElem?_map] at hj
   cases hq : cs[j]? with
   | none => rw [hq] at hj; simp at hj
   | some x =>
    rw [hq] at hj; simp at hj; subst hj;obtain ⟨c,h1,h2,h3⟩ := hc j x hq;exact ⟨c,h1,loc1_one h2,loc1_VR ok h (okL_at hu hq) h3⟩
  case tup cs => exact (show VR S E' w (.tup cs) v from by cases (show VR S E w (.tup cs) v from hv))
theorem loc_VR (ok : Ok S) (h : Sub S E H w ids lent E') {u : AV K El} {v : Value} (hu : okV H ids lent u) (hv : VRv S E w u v) : VRv S E' w (loc H ids lent u) v := by
 cases hp : u.plain with
 | true =>
  have h1 : okV H ids lent u = ok1 H ids lent u := by cases u <;> first | rfl | simp [AV.plain] at hp
  have h2 : loc H ids lent u = loc1 H ids lent u := by cases u <;> first | rfl | simp [AV.plain] at hp
  rw [VRv_plain hp] at hv;rw [h1] at hu;rw [h2,VRv_plain (loc1_plain hp)];exact loc1_VR ok h hu hv
 | false =>
  cases u <;> simp [AV.plain] at hp
  case agg cs => exact loc2_VR ok h (u := .agg cs) hu hv
  case tup cs =>
   obtain ⟨a,rfl,hl,hc⟩ := hv;refine ⟨a,rfl,by simpa using hl,fun j u hj => ?_⟩;rw [List.getElem?_map] at hj
   cases hq : cs[j]? with
   | none => rw [hq] at hj; simp at hj
   | some x =>
    rw [hq] at hj; simp at hj; subst hj;obtain ⟨c,h1,h2⟩ := hc j x hq;exact ⟨c,h1,loc2_VR ok h (okT_at hu hq) h2⟩
theorem okH_at {l : List Nat} (h : okH H ids lent l) {j i : Nat} (hj : l[j]? = some i) : okO H ids lent (H.getD i .gone) := by
 induction l generalizing j with
 | nil => simp at hj
 | cons a l ih =>
  cases j with
  | zero => simp at hj; subst hj; exact h.1
  | succ j => exact ih h.2 (by simpa using hj)
theorem loc_OR (ok : Ok S) (h : Sub S E H w ids lent E') {o : AO K El} {l : Loc} (hu : okO H ids lent o) (hv : OR S E w o l) : OR S E' w (locO H ids lent o) l := by
 cases o with
 | gone => trivial
 | cells vs =>
  cases l with
  | gone => exact hv
  | nil => exact hv
  | blk b =>
   obtain ⟨c,e,h1,h2,h3⟩ := hv;refine ⟨c,e,h1,by simpa using h2,fun j u hj => ?_⟩;rw [List.getElem?_map] at hj
   cases hq : vs[j]? with
   | none => rw [hq] at hj; simp at hj
   | some x =>
    rw [hq] at hj; simp at hj; subst hj;obtain ⟨v,k1,k2,k3⟩ := h3 j x hq;exact ⟨v,k1,loc1_one k2,loc1_VR ok h (okL_at hu hq) k3⟩
 | row k xs =>
  cases l with
  | gone => exact hv
  | nil => exact hv
  | blk b =>
   obtain ⟨c,h1,h2,h3⟩ := hv;exact ⟨c,h1,h2,fun j x hx t u hu => let ⟨v,k1,k2⟩ := h3 j x hx t u hu; ⟨v,k1,VR.of_free ok h.st k2 (ok.free _ _ _ (mem_of_getElem? hu))⟩⟩
 | siter s p => cases l <;> exact hv
 | map es =>
  cases l with
  | gone => exact hv
  | nil => exact hv
  | blk b =>
   obtain ⟨es',ck,h1,h2,h3⟩ := hv;exact ⟨es',ck,h1,h2,fun j e hj => let ⟨e',k1,k2,k3,k4,k5⟩ := h3 j e hj; ⟨e',k1,k2,k3,k4.of_data k2,k5.of_data k3⟩⟩
 | arr k xs =>
  cases l with
  | gone => exact hv
  | nil => exact hv
  | blk b =>
   obtain ⟨c,e,h1,h2,h3⟩ := hv;exact ⟨c,e,h1,h2,fun j x hx t u hu => let ⟨v,k1,k2⟩ := h3 j x hx t u hu; ⟨v,k1,VR.of_free ok h.st k2 (ok.free _ _ _ (mem_of_getElem? hu))⟩⟩
 | miter i =>
  cases l with
  | gone => exact (show False from hv).elim
  | nil => exact (show False from hv).elim
  | blk b =>
   obtain ⟨m,since,ck,h1,h2⟩ := hv;simp only [locO];split
   · rename_i j hj;exact ⟨m,since,ck,h1,h2.imp (h.at_ (idxOf?_some hj)) (h.at_ (idxOf?_some hj))⟩
   · trivial
 | rowx k xs e vs =>
  cases l with
  | gone => exact hv
  | nil => exact hv
  | blk b =>
   obtain ⟨c,h1,h2,h3,h4,h5,h6⟩ := hv;refine ⟨c,h1,h2,h3,by simpa using h4,fun j x hj hx t u hu => let ⟨v,k1,k2⟩ := h5 j x hj hx t u hu; ⟨v,k1,VR.of_free ok h.st k2 (ok.free _ _ _ (mem_of_getElem? hu))⟩,fun t u hj => ?_⟩;rw [List.getElem?_map] at hj
   cases hq : vs[t]? with
   | none => rw [hq] at hj; simp at hj
   | some x =>
    rw [hq] at hj; simp at hj; subst hj;obtain ⟨v,k1,k2,k3⟩ := h6 t x hq;exact ⟨v,k1,loc1_one k2,loc1_VR ok h (okL_at hu hq) k3⟩
theorem nodup_at {l : List Nat} (h : l.Nodup) {i j x : Nat} (hi : l[i]? = some x) (hj : l[j]? = some x) : i = j := by
 exact (List.getElem?_inj (List.getElem?_eq_some_iff.1 hi).1 h).1 (hi.trans hj.symm)
theorem Sub.back (h : Sub S E H w ids lent E') {j : Nat} {l : Loc} (hl : E'.ρ[j]? = some l) : ∃ i,ids[j]? = some i ∧ E.ρ[i]? = some l := by
 rw [h.ρ,List.getElem?_map] at hl
 cases hq : ids[j]? with
 | none => rw [hq] at hl; simp at hl
 | some i =>
  rw [hq] at hl; simp at hl;have hlt : i < E.ρ.length := by rw [h.emb.len]; exact h.lt i (mem_of_getElem? hq)
  refine ⟨i,rfl,?_⟩;rw [List.getElem?_eq_getElem hlt];simpa [List.getD,List.getElem?_eq_getElem hlt] using hl
theorem loc_Emb (ok : Ok S) (h : Sub S E H w ids lent E') (hu : okH H ids lent ids) : Emb S E' (locH H ids lent) w where
 len := by rw [h.ρ]; simp [locH]
 obj j o l ho hl := by
  obtain ⟨i,hi,hl'⟩ := h.back hl;have hlt := h.lt i (mem_of_getElem? hi);rw [locH,List.getElem?_map,hi] at ho;simp at ho;subst ho;have hg : H.getD i .gone = H[i] := by simp [List.getD,hlt]
  have ho := okH_at hu hi;rw [← List.getD_eq_getElem?_getD];exact loc_OR ok h ho (h.emb.obj i _ l (by rw [hg]; exact List.getElem?_eq_getElem hlt) hl')
 inj i j b hi hj := by
  obtain ⟨a,ha,hal⟩ := h.back hi;obtain ⟨c,hc,hcl⟩ := h.back hj;have := h.emb.inj a c b hal hcl;subst this;exact nodup_at h.nodup ha hc
 lt i b hi := by
  obtain ⟨a,_,hal⟩ := h.back hi;exact h.emb.lt a b hal
 F := h.F
 gl := ⟨h.emb.gl.inv,h.emb.gl.lt,fun b hb => h.st b (h.emb.gl.st b hb)⟩
end
end Sh
end Go.Proofs.YtomdfaelgcefdaaGreatDoor
namespace Go.Proofs.YtomdfaelgcefdaaGreatDoor
open Go
namespace Sh
variable {K : Type} {El : K → Type}
def Spec (S : Seat K El) (f : Nat) (vs : List (AV K El)) (H : Heap K El) (R : AV K El → Heap K El → Prop) : Prop :=
 ∀ (E : Env) (w : World) (args : Array Value),Emb S E H w → args.size = vs.length → (∀ (j : Nat) u,vs[j]? = some u → ∃ v,args[j]? = some v ∧ VR2 S E w u v) →
  Calls S.P f args w fun e w' => ∃ v r E' H',e = .returned v ∧ R r H' ∧ VRv S E' w' r v ∧ Emb S E' H' w' ∧ Ext E w E' w'
def callG (S : Seat K El) (f : Nat) (vs : List (AV K El)) (H : Heap K El) (k : AV K El → Heap K El → Prop) : Prop :=
 ∃ (ids lent : List Nat) (R : AV K El → Heap K El → Prop),ids.Nodup ∧ (∀ i ∈ ids,i < H.length) ∧ vs.all AV.ntup = true ∧ okT H ids lent vs ∧ okH H ids lent ids ∧
  Spec S f (vs.map (loc2 H ids lent)) (locH H ids lent) R ∧
  ∀ r H',R r H' → (lent = [] ∨ (pureV r = true ∧ H'.all (pureO S) = true)) ∧ k (glob H.length ids r) (globH H ids H')
def callable (P : Program) (f : Nat) : Bool := match P.funcs[f]? with
 | some fn => fn.body.isSome && !(fn.name == "runtime.NumGoroutine")
 | none => false
def byteAt (s : ByteArray) (n : Nat) : Int := if h : n < s.size then (s[n]'h).toNat else 0
def lenI (str : Bool) (x : AV K El) (k : Int → Prop) : Prop := match str,x with
 | false,.own _ _ _ len _ => k len
 | false,.imm _ xs => k xs.length
 | false,.nils => k 0
 | true,.str s => k s.size
 | _,_ => False
def cpy (S : Seat K El) (H : Heap K El) (kk : K) (d : AV K El) (ys : List (El kk)) (k : AV K El → Heap K El → Prop) : Prop := match d with
 | .own k' i lo len _ => match H[i]? with
  | some (.row kr xs) => match castL S kr kk xs with
   | some xs => kr = k' ∧ lo + len ≤ xs.length ∧
       k (.int .i64 (min ys.length len : Nat)) (H.set i (.row kk (xs.take lo ++ ys.take len ++ xs.drop (lo + min ys.length len))))
   | none => False
  | _ => False
 | .nils => k (.int .i64 0) H
 | _ => False
def nilG (x : AV K El) (k : AV K El → Prop) : Prop := match x with
 | .ptr _ _ | .eptr _ _ _ _ | .iptr _ _ _ _ | .fn _ | .clo _ _ => k x
 | _ => False
def faddrG (off : Nat) (x : AV K El) (k : AV K El → Prop) : Prop := match x with
 | .ptr i o => k (.ptr i (o + off))
 | .eptr kk i e o => k (.eptr kk i e (o + off))
 | .iptr kk xs e o => k (.iptr kk xs e (o + off))
 | _ => False
def iaddrG (kk : K) (x : AV K El) (n : Int) (k : AV K El → Prop) : Prop := match x with
 | .own k' i lo len _ => k' = kk ∧ 0 ≤ n ∧ n < len ∧ k (.eptr k' i (lo + n.toNat) 0)
 | .imm k' xs => k' = kk ∧ 0 ≤ n ∧ n < xs.length ∧ k (.iptr k' xs n.toNat 0)
 | _ => False
def capV : Option Nat → AV K El
 | none => .nilp
 | some i => .ptr i 0
def capOf : AV K El → Option (Option Nat)
 | .nilp => some none
 | .ptr i 0 => some (some i)
 | _ => none
def capsOf : List (AV K El) → Option (List (Option Nat))
 | [] => some []
 | v :: vs => match capOf v,capsOf vs with
  | some o,some os => some (o :: os)
  | _,_ => none
def bytesV (b : ByteArray) : List (AV K El) := b.data.toList.map fun x => .int .u8 (x.toNat : Int)
def cloOf (f : Nat) (is : List (Option Nat)) : AV K El := match is with
 | [] => .fn f
 | is => .clo f is
def G (S : Seat K El) (p : Prim K El) (vs : List (AV K El)) (H : Heap K El) (k : AV K El → Heap K El → Prop) : Prop :=
 match p,vs with
 | .mov,[x] => k x H
 | .pick,[.bool c,a,b] => k (cond c a b) H
 | .alloc z,[] => k (.ptr H.length 0) (H ++ [.cells z])
 | .box,[v] => v.cells.all AV.one = true ∧ k (.ptr H.length 0) (H ++ [.cells v.cells])
 | .build z ps,vs => match lay z ps vs with
  | some cs => k (.agg cs) H
  | none => False
 | .mkrow kk,vs => match rowOf S kk vs with
  | some xs => k (.own kk H.length 0 xs.length (cpOf xs)) (H ++ [.row kk xs])
  | none => False
 | .load n ag,[a] => rd S H a n fun us => k (if ag then .agg us else us.headD .junk) H
 | .store n,[a,v] => v.cells.length = n ∧ v.cells.all AV.one = true ∧ wr S H a v.cells fun H' => k .junk H'
 | .nilck,[x] => alive H x = true ∧ nilG x fun v => k v H
 | .bin op c,[x,y] => alive H x = true ∧ alive H y = true ∧ bin op c x y fun v => k v H
 | .un op,[x] => un op x fun v => k v H
 | .conv kk,[.int _ n] => k (.int kk (kk.wrap n)) H
 | .b2s kk,[x] => content S H kk x fun ys => (S.size kk = 1 ∧ ∀ y ∈ ys,∃ n,S.enc kk y = [.int .u8 n]) ∧ k (.str (bytesS S kk ys)) H
 | .slice kk lo hi mx,x :: vs => alive H x = true ∧ slc kk lo hi mx x vs fun v => k v H
 | .rangeS,[.str s] => k (.ptr H.length 0) (H ++ [.siter s 0])
 | .nextS,[.ptr i 0] => match H[i]? with
  | some (.siter s p) => cas (decide (p < s.size)) (k (.tup [.bool true,.int .i64 p,.int .i32 (Utf8.decode s p).1]) (H.set i (.siter s (p + (Utf8.decode s p).2)))) (k (.tup [.bool false]) H)
  | _ => False
 | .sslice lo hi,.str s :: vs => idx lo (if lo then vs[0]? else none) 0 fun l => idx hi vs[lo.toNat]? s.size fun h =>
     0 ≤ l ∧ l ≤ h ∧ h ≤ s.size ∧ k (.str (s.extract l.toNat h.toNat)) H
 | .faddr off,[x] => alive H x = true ∧ faddrG off x fun v => k v H
 | .field off n ag,[.agg cs] => off + n ≤ cs.length ∧ k (if ag then .agg ((cs.drop off).take n) else (cs.drop off).headD .junk) H
 | .iaddr kk,[x,.int _ n] => alive H x = true ∧ iaddrG kk x n fun v => k v H
 | .sindex,[.str s,.int _ n] => 0 ≤ n ∧ n < s.size ∧ k (.int .u8 (byteAt s n.toNat)) H
 | .extract j,[.tup vs] => match vs[j]? with
  | some v => k v H
  | none => False
 | .call f,vs => callG S f vs H k
 | .callv,.fn f :: vs => callable S.P f = true ∧ callG S f vs H k
 | .callv,.clo f is :: vs => alive H (.clo f is) = true ∧ callable S.P f = true ∧ callG S f (vs ++ is.map capV) H k
 | .append kk,[s,x] => content S H kk x fun ys => app S H kk s ys k
 | .copy kk,[d,s] => content S H kk s fun ys => cpy S H kk d ys k
 | .len str,[x] => alive H x = true ∧ lenI str x fun n => k (.int .i64 n) H
 | .mkslice kk,[.int _ l,.int _ c] => 0 ≤ l ∧ l = c ∧ fits S kk l.toNat ∧ k (.own kk H.length 0 l.toNat .whole) (H ++ [.row kk (List.replicate l.toNat (S.zero kk))])
 | .alloca kk n,[] => k (.ptr H.length 0) (H ++ [.arr kk (List.replicate n (S.zero kk))])
 | .slicea kk n,[.ptr i 0,.int _ h] => match H[i]? with
  | some (.arr kr xs) => kr = kk ∧ xs.length = n ∧ 0 ≤ h ∧ h ≤ n ∧ n ≤ maxLen ∧ k (.own kk i 0 h.toNat .unk) H
  | _ => False
 | .appendS kk,[s,.str b] => match rowOf S kk (bytesV b) with
  | some ys => app S H kk s ys k
  | none => False
 | .mkfn f,vs => match capsOf vs with
  | some is => vs.all (alive H) = true ∧ k (cloOf f is) H
  | none => False
 | .aindex len sz ag,[.agg cs,.int _ n] => 0 ≤ n ∧ n < len ∧ n.toNat * sz + sz ≤ cs.length ∧ k (if ag then .agg ((cs.drop (n.toNat * sz)).take sz) else (cs.drop (n.toNat * sz)).headD .junk) H
 | .mkmap,_ => k (.mp H.length) (H ++ [.map []])
 | .mlook c z ck,[.mp i,key] => match H[i]? with
  | some (.map es) => kd1 c key = true ∧ match mfind key es 0 with
   | some none => k (if ck then .tup [z,.bool false] else z) H
   | some (some (_,v)) => k (if ck then .tup [v,.bool true] else v) H
   | none => False
  | _ => False
 | .mput c,[.mp i,key,v] => match H[i]? with
  | some (.map es) => kd1 c key = true ∧ v.data = true ∧ match mfind key es 0 with
   | some none => k .junk (H.set i (.map (es ++ [(key,v)])))
   | some (some (j,_)) => k .junk (H.set i (.map (es.set j (key,v))))
   | none => False
  | _ => False
 | .rangeM,[.mp i] => match H[i]? with
  | some (.map _) => k (.ptr H.length 0) (H ++ [.miter i])
  | _ => False
 | .nextM,[.ptr j 0] => match H[j]? with
  | some (.miter i) => match H[i]? with
   | some (.map []) => k (.tup [.bool false]) H
   | _ => False
  | _ => False
 | _,_ => False
variable {S : Seat K El}
theorem VR.of_pure {E E' : Env} {w : World} {u : AV K El} {v : Value} (h : VR S E w u v) (hu : u.free = true) (hp : pure1 u = true) : VR S E' w u v := by
 cases h with
 | junk v => exact .junk v
 | cell v hv => exact .cell v hv
 | bool b => exact .bool b
 | int k n => exact .int k n
 | str s => exact .str s
 | nilp => exact .nilp
 | nils => exact .nils
 | fn f => exact .fn f
 | nilfn => exact .nilfn
 | nilmap => exact .nilmap
 | immNil A cap hm => exact .immNil A cap hm
 | ptr _ | ptrGone _ _ | eptr _ | eptrGone _ _ | own _ _ _ _ _ _ | ownNil _ | ownGone _ _ | clo _ _ _ | cloGone _ _ _ | mp _ | mpGone _ _ => simp [AV.free] at hu
 | iptr _ _ _ _ _ _ | imm _ _ _ _ _ _ _ _ _ => simp [pure1] at hp
def backρ (ρ ρ' : List Loc) (ids : List Nat) : List Loc :=
 ((List.range ρ.length).map fun i => match ids.idxOf? i with
  | some j => ρ'.getD j .gone
  | none => ρ.getD i .gone) ++ ρ'.drop ids.length
theorem nodup_idxOf? {ids : List Nat} (h : ids.Nodup) {i j : Nat} (hj : ids[j]? = some i) : ids.idxOf? i = some j := by
 cases hq : ids.idxOf? i with
 | none => exact absurd (mem_of_getElem? hj) (idxOf?_none hq)
 | some q => exact congrArg some (nodup_at h (idxOf?_some hq) hj)
theorem backρ_length (ρ ρ' : List Loc) (ids : List Nat) : (backρ ρ ρ' ids).length = ρ.length + (ρ'.length - ids.length) := by simp [backρ]
theorem backρ_old (ρ ρ' : List Loc) (ids : List Nat) {i : Nat} (hi : i < ρ.length) :
    (backρ ρ ρ' ids)[i]? = some (match ids.idxOf? i with | some j => ρ'.getD j .gone | none => ρ.getD i .gone) := by
 rw [backρ,List.getElem?_append_left (by simpa using hi)];simp [hi]
theorem backρ_new (ρ ρ' : List Loc) (ids : List Nat) (j : Nat) : (backρ ρ ρ' ids)[ρ.length + j]? = ρ'[ids.length + j]? := by
 rw [backρ,List.getElem?_append_right (by simp)];simp
section
variable {E Ec Ec' : Env} {H H' : Heap K El} {w w' : World} {ids lent : List Nat}
def inF (E : Env) (ids lent : List Nat) (b : Nat) : Prop := E.F b ∨ ∃ i : Nat,i ∉ ids ∧ i ∉ lent ∧ E.ρ[i]? = some (.blk b)
def inEnv (E : Env) (ids lent : List Nat) : Env := ⟨ids.map fun i => E.ρ.getD i .gone,inF E ids lent⟩
def backEnv (E Ec' : Env) (ids : List Nat) : Env := ⟨backρ E.ρ Ec'.ρ ids,E.F⟩
theorem Sub.inEnv (h : Emb S E H w) (hn : ids.Nodup) (hl : ∀ i ∈ ids,i < H.length) : Sub S E H w ids lent (inEnv E ids lent) := by
 have back : ∀ (j : Nat) (b : Nat),(Sh.inEnv E ids lent).ρ[j]? = some (.blk b) → ∃ i,i ∈ ids ∧ E.ρ[i]? = some (.blk b) := by
  intro j b hj;simp only [Sh.inEnv,List.getElem?_map] at hj
  cases hq : ids[j]? with
  | none => rw [hq] at hj; simp at hj
  | some i =>
   rw [hq] at hj; simp at hj;have hlt : i < E.ρ.length := by rw [h.len]; exact hl i (mem_of_getElem? hq)
   refine ⟨i,mem_of_getElem? hq,?_⟩;rw [List.getElem?_eq_getElem hlt];simpa [List.getD,List.getElem?_eq_getElem hlt] using hj
 refine ⟨h,hn,hl,rfl,fun b hb => ⟨fun i hi => ?_,fun hF => ?_⟩,fun i b hi hni hb => ⟨fun j hj => ?_,fun hF => ?_⟩,fun b hF => ?_⟩
 · obtain ⟨a,_,ha⟩ := back i b hi;exact hb.1 a ha
 · rcases hF with hF | ⟨i,_,_,hi⟩
   · exact hb.2 hF
   · exact hb.1 i hi
 · obtain ⟨a,ha,hab⟩ := back j b hj;have := h.inj a i b hab hb;subst this;exact hni ha
 · rcases hF with hF | ⟨a,ha,hal,hab⟩
   · exact (h.F b hF).2 i hb
   · have := h.inj a i b hab hb;subst this;exact hal hi
 · rcases hF with hF | ⟨i,hni,hli,hi⟩
   · exact ⟨(h.F b hF).1,fun j hj => by obtain ⟨a,_,hab⟩ := back j b hj; exact (h.F b hF).2 a hab⟩
   · refine ⟨h.lt i b hi,fun j hj => ?_⟩;obtain ⟨a,ha,hab⟩ := back j b hj;have := h.inj a i b hab hi;subst this;exact hni ha
structure Back (S : Seat K El) (E : Env) (H : Heap K El) (w : World) (ids lent : List Nat) (Ec' : Env) (H' : Heap K El) (w' : World) : Prop where
 emb : Emb S E H w
 nodup : ids.Nodup
 lt : ∀ i ∈ ids,i < H.length
 emb' : Emb S Ec' H' w'
 ext : Ext (inEnv E ids lent) w Ec' w'
theorem Back.sub (h : Back S E H w ids lent Ec' H' w') : Sub S E H w ids lent (inEnv E ids lent) := .inEnv h.emb h.nodup h.lt
theorem Back.len (h : Back S E H w ids lent Ec' H' w') : ids.length ≤ H'.length := by
 rcases Nat.lt_or_ge H'.length ids.length with hlt | hge
 · exfalso;have hl : (inEnv E ids lent).ρ.length = ids.length := by simp [inEnv]
   have hlt' : H'.length < (inEnv E ids lent).ρ.length := by omega
   rcases h.ext.mono H'.length _ (List.getElem?_eq_getElem hlt') with h1 | h1
   all_goals
    have := (List.getElem?_eq_some_iff.1 h1).1;rw [h.emb'.len] at this;omega
 · exact hge
theorem Back.cases (h : Back S E H w ids lent Ec' H' w') {i : Nat} {l : Loc} (hi : (backEnv E Ec' ids).ρ[i]? = some l) :
    (∃ j,Ec'.ρ[j]? = some l ∧ ((j < ids.length ∧ ids[j]? = some i) ∨ (ids.length ≤ j ∧ i = E.ρ.length + (j - ids.length)))) ∨ (i < E.ρ.length ∧ i ∉ ids ∧ E.ρ[i]? = some l) := by
 have hlen := h.len;simp only [backEnv] at hi
 by_cases hlt : i < E.ρ.length
 · rw [backρ_old _ _ _ hlt] at hi;simp only [Option.some.injEq] at hi;split at hi
   · rename_i j hj;have hji := idxOf?_some hj;have hjl := (List.getElem?_eq_some_iff.1 hji).1;have hjl' : j < Ec'.ρ.length := by rw [h.emb'.len]; omega
     refine .inl ⟨j,?_,.inl ⟨hjl,hji⟩⟩;rw [List.getElem?_eq_getElem hjl'];simpa [List.getD,List.getElem?_eq_getElem hjl'] using hi
   · rename_i hj;refine .inr ⟨hlt,idxOf?_none hj,?_⟩;rw [List.getElem?_eq_getElem hlt];simpa [List.getD,List.getElem?_eq_getElem hlt] using hi
 · obtain ⟨t,rfl⟩ : ∃ t,i = E.ρ.length + t := ⟨i - E.ρ.length,by omega⟩;rw [backρ_new] at hi;exact .inl ⟨ids.length + t,hi,.inr ⟨by omega,by omega⟩⟩
theorem Back.own_lt (h : Back S E H w ids lent Ec' H' w') {i b : Nat} (hi : E.ρ[i]? = some (.blk b)) (hn : i ∉ ids) : b < w.heap.size ∧ (∀ j : Nat,(inEnv E ids lent).ρ[j]? ≠ some (.blk b)) := by
 refine ⟨h.emb.lt i b hi,fun j hj => ?_⟩;obtain ⟨a,ha,hab⟩ := h.sub.back hj;have := h.emb.inj a i b hab hi;subst this;exact hn (mem_of_getElem? ha)
theorem Back.own_not (h : Back S E H w ids lent Ec' H' w') {i b : Nat} (hi : E.ρ[i]? = some (.blk b)) (hn : i ∉ ids) (j : Nat) : Ec'.ρ[j]? ≠ some (.blk b) := by
 intro hj;obtain ⟨h1,h2⟩ := h.own_lt hi hn
 rcases h.ext.fresh j b hj with ⟨a,ha⟩ | hle
 · exact h2 a ha
 · omega
theorem Back.extE (h : Back S E H w ids lent Ec' H' w') : Ext E w (backEnv E Ec' ids) w' where
 size := h.ext.size
 keep b hb hn := h.ext.keep b hb fun j hj => by
  obtain ⟨a,_,hab⟩ := h.sub.back hj;exact hn a hab
 shape := h.ext.shape
 mono i l hl := by
  have hlt := (List.getElem?_eq_some_iff.1 hl).1;simp only [backEnv];rw [backρ_old _ _ _ hlt];split
  · rename_i j hj;have hji := idxOf?_some hj;have hin : (inEnv E ids lent).ρ[j]? = some l := h.sub.at_ hji hl
    rcases h.ext.mono j l hin with h1 | h1
    · exact .inl (by simp [List.getD,h1])
    · exact .inr (by simp [List.getD,h1])
  · exact .inl (by simp [List.getD,hl])
 fresh i b hi := by
  rcases h.cases hi with ⟨j,hj,_⟩ | ⟨_,_,h3⟩
  · rcases h.ext.fresh j b hj with ⟨a,ha⟩ | hle
    · obtain ⟨c,_,hc⟩ := h.sub.back ha;exact .inl ⟨c,hc⟩
    · exact .inr hle
  · exact .inl ⟨i,h3⟩
 F := rfl
 os := h.ext.os
 tape := h.ext.tape
 output := h.ext.output
theorem Back.at_ (h : Back S E H w ids lent Ec' H' w') {j : Nat} {l : Loc} (hj : Ec'.ρ[j]? = some l) :
    (backEnv E Ec' ids).ρ[if j < ids.length then ids.getD j 0 else H.length + (j - ids.length)]? = some l := by
 simp only [backEnv];split
 · rename_i hlt;have hji : ids[j]? = some (ids.getD j 0) := by simp [List.getD,List.getElem?_eq_getElem hlt]
   have hil : ids.getD j 0 < E.ρ.length := by rw [h.emb.len]; exact h.lt _ (mem_of_getElem? hji)
   rw [backρ_old _ _ _ hil,nodup_idxOf? h.nodup hji];simp [List.getD,hj]
 · rename_i hge;rw [← h.emb.len,backρ_new];rw [show ids.length + (j - ids.length) = j by omega];exact hj
theorem Back.stable (h : Back S E H w ids [] Ec' H' w') {b : Nat} (hb : Stable Ec' b) : Stable (backEnv E Ec' ids) b := by
 refine ⟨fun i hi => ?_,fun hF => hb.2 (by rw [h.ext.F]; exact .inl hF)⟩
 rcases h.cases hi with ⟨j,hj,_⟩ | ⟨_,h2,h3⟩
 · exact hb.1 j hj
 · exact hb.2 (by rw [h.ext.F]; exact .inr ⟨i,h2,by simp,h3⟩)
theorem Back.free (ok : Ok S) (h : Back S E H w ids lent Ec' H' w') {u : AV K El} (hl : lent = [] ∨ pure1 u = true) {v : Value} (hu : u.free = true) (hv : VR S Ec' w' u v) : VR S (backEnv E Ec' ids) w' u v := by
 rcases hl with rfl | hp
 · exact VR.of_free ok (fun b hb => h.stable hb) hv hu
 · exact VR.of_pure hv hu hp
theorem Back.VR1 (ok : Ok S) (h : Back S E H w ids lent Ec' H' w') {u : AV K El} (hl : lent = [] ∨ pure1 u = true) {v : Value} (hv : VR S Ec' w' u v) : VR S (backEnv E Ec' ids) w' (glob1 H.length ids u) v := by
 cases hv with
 | junk v => exact .junk v
 | ptr hi => exact .ptr (h.at_ hi)
 | ptrGone hi hv => exact .ptrGone (h.at_ hi) hv
 | eptr hi => exact .eptr (h.at_ hi)
 | eptrGone hi hv => exact .eptrGone (h.at_ hi) hv
 | own hi hf hw hle hm ho => exact .own (h.at_ hi) hf hw hle hm ho
 | ownNil hi => exact .ownNil (h.at_ hi)
 | ownGone hi hv => exact .ownGone (h.at_ hi) hv
 | cell v hv => exact .cell v hv
 | bool b => exact .bool b
 | int k n => exact .int k n
 | str s => exact .str s
 | nilp => exact .nilp
 | nils => exact .nils
 | fn f => exact .fn f
 | nilfn => exact .nilfn
 | nilmap => exact .nilmap
 | @clo f is cs hsz hn hp =>
  refine .clo (by simpa using hsz) (fun j hj => ?_) fun j i hj => ?_
  · rw [List.getElem?_map] at hj;refine hn j ?_
    cases hq : is[j]? with
    | none => rw [hq] at hj; simp at hj
    | some o =>
     rw [hq] at hj
     cases o with
     | none => rfl
     | some q => simp at hj
  · rw [List.getElem?_map] at hj
    cases hq : is[j]? with
    | none => rw [hq] at hj; simp at hj
    | some o =>
     rw [hq] at hj
     cases o with
     | none => simp at hj
     | some q =>
      simp only [Option.map_some,Option.some.injEq] at hj;subst hj;obtain ⟨b,hb,hc⟩ := hp j q hq;exact ⟨b,h.at_ hb,hc⟩
 | @cloGone f i is v hi hg hv =>
  exact .cloGone (i := if i < ids.length then ids.getD i 0 else H.length + (i - ids.length)) (List.mem_map.2 ⟨some i,hi,rfl⟩) (h.at_ hg) hv
 | mp hi => exact .mp (h.at_ hi)
 | mpGone hi hv => exact .mpGone (h.at_ hi) hv
 | immNil A cap hm => exact .immNil A cap hm
 | iptr b o cs hs hc hv => exact h.free ok hl rfl (.iptr b o cs hs hc hv)
 | imm b o cap cs hs hle hm hc hv => exact h.free ok hl rfl (.imm b o cap cs hs hle hm hc hv)
theorem glob1_one {n : Nat} {u : AV K El} (h : u.one = true) : (glob1 n ids u).one = true := by cases u <;> first | exact h | rfl
theorem glob1_plain {n : Nat} {u : AV K El} (h : u.plain = true) : (glob1 n ids u).plain = true := by cases u <;> first | exact h | rfl
theorem Back.VR2 (ok : Ok S) (h : Back S E H w ids lent Ec' H' w') {u : AV K El} (hl : lent = [] ∨ pure2 u = true) {v : Value} (hv : VR2 S Ec' w' u v) : VR2 S (backEnv E Ec' ids) w' (glob2 H.length ids u) v := by
 cases hp : u.plain with
 | true =>
  have h1 : glob2 H.length ids u = glob1 H.length ids u := by cases u <;> first | rfl | simp [AV.plain] at hp
  have h2 : pure2 u = pure1 u := by cases u <;> first | rfl | simp [AV.plain] at hp
  rw [h2] at hl;rw [VR2_plain hp] at hv;rw [h1,VR2_plain (glob1_plain hp)];exact h.VR1 ok hl hv
 | false =>
  cases u <;> simp [AV.plain] at hp
  case agg cs =>
   obtain ⟨a,rfl,hl',hc⟩ := hv;refine ⟨a,rfl,by simpa using hl',fun j u hj => ?_⟩;rw [List.getElem?_map] at hj
   cases hq : cs[j]? with
   | none => rw [hq] at hj; simp at hj
   | some x =>
    rw [hq] at hj; simp at hj; subst hj;obtain ⟨c,h1,h2,h3⟩ := hc j x hq;refine ⟨c,h1,glob1_one h2,h.VR1 ok (hl.imp id fun hp => ?_) h3⟩;exact List.all_eq_true.1 hp x (mem_of_getElem? hq)
  case tup cs => exact (show VR S (backEnv E Ec' ids) w' (.tup cs) v from by cases (show VR S Ec' w' (.tup cs) v from hv))
theorem Back.VRv (ok : Ok S) (h : Back S E H w ids lent Ec' H' w') {u : AV K El} (hl : lent = [] ∨ pureV u = true) {v : Value} (hv : VRv S Ec' w' u v) : VRv S (backEnv E Ec' ids) w' (glob H.length ids u) v := by
 cases hp : u.plain with
 | true =>
  have h1 : glob H.length ids u = glob1 H.length ids u := by cases u <;> first | rfl | simp [AV.plain] at hp
  have h2 : pureV u = pure1 u := by cases u <;> first | rfl | simp [AV.plain] at hp
  rw [h2] at hl;rw [VRv_plain hp] at hv;rw [h1,VRv_plain (glob1_plain hp)];exact h.VR1 ok hl hv
 | false =>
  cases u <;> simp [AV.plain] at hp
  case agg cs => exact h.VR2 ok (u := .agg cs) hl hv
  case tup cs =>
   obtain ⟨a,rfl,hl',hc⟩ := hv;refine ⟨a,rfl,by simpa using hl',fun j u hj => ?_⟩;rw [List.getElem?_map] at hj
   cases hq : cs[j]? with
   | none => rw [hq] at hj; simp at hj
   | some x =>
    rw [hq] at hj; simp at hj; subst hj;obtain ⟨c,h1,h2⟩ := hc j x hq;exact ⟨c,h1,h.VR2 ok (hl.imp id fun hp => List.all_eq_true.1 hp x (mem_of_getElem? hq)) h2⟩
theorem Back.OR (ok : Ok S) (h : Back S E H w ids lent Ec' H' w') {o : AO K El} (hl : lent = [] ∨ pureO S o = true) {l : Loc} (hv : OR S Ec' w' o l) : OR S (backEnv E Ec' ids) w' (globO H.length ids o) l := by
 cases o with
 | gone => trivial
 | cells vs =>
  cases l with
  | gone => exact hv
  | nil => exact hv
  | blk b =>
   obtain ⟨c,e,h1,h2,h3⟩ := hv;refine ⟨c,e,h1,by simpa using h2,fun j u hj => ?_⟩;rw [List.getElem?_map] at hj
   cases hq : vs[j]? with
   | none => rw [hq] at hj; simp at hj
   | some x =>
    rw [hq] at hj; simp at hj; subst hj;obtain ⟨v,k1,k2,k3⟩ := h3 j x hq;exact ⟨v,k1,glob1_one k2,h.VR1 ok (hl.imp id fun hp => List.all_eq_true.1 hp x (mem_of_getElem? hq)) k3⟩
 | row k xs =>
  cases l with
  | gone => exact hv
  | nil => exact hv
  | blk b =>
   obtain ⟨c,h1,h2,h3⟩ := hv
   exact ⟨c,h1,h2,fun j x hx t u hu => let ⟨v,k1,k2⟩ := h3 j x hx t u hu
    ⟨v,k1,h.free ok (hl.imp id fun hp => ok.flat k x hp u (mem_of_getElem? hu)) (ok.free _ _ _ (mem_of_getElem? hu)) k2⟩⟩
 | siter s p => cases l <;> exact hv
 | map es =>
  cases l with
  | gone => exact hv
  | nil => exact hv
  | blk b =>
   obtain ⟨es',ck,h1,h2,h3⟩ := hv;exact ⟨es',ck,h1,h2,fun j e hj => let ⟨e',k1,k2,k3,k4,k5⟩ := h3 j e hj; ⟨e',k1,k2,k3,k4.of_data k2,k5.of_data k3⟩⟩
 | arr k xs =>
  cases l with
  | gone => exact hv
  | nil => exact hv
  | blk b =>
   obtain ⟨c,e,h1,h2,h3⟩ := hv
   exact ⟨c,e,h1,h2,fun j x hx t u hu => let ⟨v,k1,k2⟩ := h3 j x hx t u hu
    ⟨v,k1,h.free ok (hl.imp id fun hp => ok.flat k x hp u (mem_of_getElem? hu)) (ok.free _ _ _ (mem_of_getElem? hu)) k2⟩⟩
 | miter i =>
  cases l with
  | gone => exact hv
  | nil => exact hv
  | blk b =>
   obtain ⟨m,since,ck,h1,h2⟩ := hv;exact ⟨m,since,ck,h1,h2.imp h.at_ h.at_⟩
 | rowx k xs e vs =>
  cases l with
  | gone => exact hv
  | nil => exact hv
  | blk b =>
   obtain ⟨c,h1,h2,h3,h4,h5,h6⟩ := hv;have hl' : lent = [] ∨ (S.flat k = true ∧ vs.all pure1 = true) := hl.imp id fun hp => by simpa [pureO] using hp
   refine ⟨c,h1,h2,h3,by simpa using h4,fun j x hj hx t u hu => let ⟨v,k1,k2⟩ := h5 j x hj hx t u hu
    ⟨v,k1,h.free ok (hl'.imp id fun hp => ok.flat k x hp.1 u (mem_of_getElem? hu)) (ok.free _ _ _ (mem_of_getElem? hu)) k2⟩,fun t u hj => ?_⟩
   rw [List.getElem?_map] at hj
   cases hq : vs[t]? with
   | none => rw [hq] at hj; simp at hj
   | some x =>
    rw [hq] at hj; simp at hj; subst hj;obtain ⟨v,k1,k2,k3⟩ := h6 t x hq;exact ⟨v,k1,glob1_one k2,h.VR1 ok (hl'.imp id fun hp => List.all_eq_true.1 hp.2 x (mem_of_getElem? hq)) k3⟩
theorem put_length (H : Heap K El) : ∀ (l : List Nat) (H0 H' : Heap K El),(globH.put H ids H0 l H').length = H0.length
 | [],_,_ => by simp [globH.put]
 | _ :: _,_,[] => by simp [globH.put]
 | i :: l,H0,o :: os => by simp [globH.put,put_length H l]
theorem put_other (H : Heap K El) : ∀ (l : List Nat) (H0 H' : Heap K El) (i : Nat),i ∉ l → (globH.put H ids H0 l H')[i]? = H0[i]?
 | [],_,_,_,_ => by simp [globH.put]
 | _ :: _,_,[],_,_ => by simp [globH.put]
 | a :: l,H0,o :: os,i,hi => by
  simp only [List.mem_cons,not_or] at hi;rw [globH.put,put_other H l _ os i hi.2,List.getElem?_set_ne (fun e => hi.1 e.symm)]
theorem put_at (H : Heap K El) : ∀ (l : List Nat) (H0 H' : Heap K El) (i j : Nat) (o : AO K El),l.Nodup → (∀ x ∈ l,x < H0.length) → l[j]? = some i → H'[j]? = some o →
    (globH.put H ids H0 l H')[i]? = some (globO H.length ids o)
 | [],_,_,_,_,_,_,_,h,_ => by simp at h
 | _ :: _,_,[],_,_,_,_,_,_,h => by simp at h
 | a :: l,H0,q :: os,i,j,o,hn,hl,hi,ho => by
  have hn' := List.nodup_cons.1 hn
  cases j with
  | zero =>
   simp at hi ho;subst hi; subst ho;rw [globH.put,put_other H l _ os a hn'.1];simp [hl a (by simp)]
  | succ j =>
   rw [globH.put];exact put_at H l _ os i j o hn'.2 (fun x hx => by rw [List.length_set]; exact hl x (by simp [hx])) (by simpa using hi) (by simpa using ho)
theorem OR.mono (ok : Ok S) {E' : Env} (h : Ext E w E' w') {o : AO K El} {l : Loc} (hb : ∀ b,l = .blk b → w'.heap[b]? = w.heap[b]?) (hv : OR S E w o l) : Sh.OR S E' w' o l := by
 cases o with
 | gone => trivial
 | cells vs =>
  cases l with
  | gone => exact hv
  | nil => exact hv
  | blk b =>
   obtain ⟨c,e,h1,h2,h3⟩ := hv;exact ⟨c,e,by rw [hb b rfl]; exact h1,h2,fun j u hu => let ⟨v,k1,k2,k3⟩ := h3 j u hu; ⟨v,k1,k2,VR.mono ok h k3⟩⟩
 | row k xs =>
  cases l with
  | gone => exact hv
  | nil => exact hv
  | blk b =>
   obtain ⟨c,h1,h2,h3⟩ := hv;exact ⟨c,by rw [hb b rfl]; exact h1,h2,fun j x hx t u hu => let ⟨v,k1,k2⟩ := h3 j x hx t u hu; ⟨v,k1,VR.mono ok h k2⟩⟩
 | siter s p =>
  cases l with
  | gone => exact hv
  | nil => exact hv
  | blk b => exact (hb b rfl).trans hv
 | map es =>
  cases l with
  | gone => exact hv
  | nil => exact hv
  | blk b =>
   obtain ⟨es',ck,h1,h2,h3⟩ := hv;exact ⟨es',ck,by rw [hb b rfl]; exact h1,h2,fun j e hj => let ⟨e',k1,k2,k3,k4,k5⟩ := h3 j e hj; ⟨e',k1,k2,k3,VR.mono ok h k4,VR.mono ok h k5⟩⟩
 | arr k xs =>
  cases l with
  | gone => exact hv
  | nil => exact hv
  | blk b =>
   obtain ⟨c,e,h1,h2,h3⟩ := hv;exact ⟨c,e,by rw [hb b rfl]; exact h1,h2,fun j x hx t u hu => let ⟨v,k1,k2⟩ := h3 j x hx t u hu; ⟨v,k1,VR.mono ok h k2⟩⟩
 | miter i =>
  cases l with
  | gone => exact hv
  | nil => exact hv
  | blk b =>
   obtain ⟨m,since,ck,h1,h2⟩ := hv;refine ⟨m,since,ck,by rw [hb b rfl]; exact h1,?_⟩
   rcases h2 with h2 | h2
   · exact h.mono _ _ h2
   · rcases h.mono _ _ h2 with h3 | h3 <;> exact .inr h3
 | rowx k xs e vs =>
  cases l with
  | gone => exact hv
  | nil => exact hv
  | blk b =>
   obtain ⟨c,h1,h2,h3,h4,h5,h6⟩ := hv
   exact ⟨c,by rw [hb b rfl]; exact h1,h2,h3,h4,fun j x hj hx t u hu => let ⟨v,k1,k2⟩ := h5 j x hj hx t u hu; ⟨v,k1,VR.mono ok h k2⟩,
    fun t u hu => let ⟨v,k1,k2,k3⟩ := h6 t u hu; ⟨v,k1,k2,VR.mono ok h k3⟩⟩
theorem Back.embE (ok : Ok S) (h : Back S E H w ids lent Ec' H' w') (hl : lent = [] ∨ H'.all (pureO S) = true) : Emb S (backEnv E Ec' ids) (globH H ids H') w' where
 len := by
  have := h.len;simp only [backEnv,backρ_length,globH,List.length_append,put_length,List.length_map,List.length_drop,h.emb.len,h.emb'.len]
 obj i o l ho hi := by
  rcases h.cases hi with ⟨j,hj,hji⟩ | ⟨h1,h2,h3⟩
  · have hjl : j < H'.length := by rw [← h.emb'.len]; exact (List.getElem?_eq_some_iff.1 hj).1
    have hq : H'[j]? = some H'[j] := List.getElem?_eq_getElem hjl
    have hgo : (globH H ids H')[i]? = some (globO H.length ids H'[j]) := by
     rcases hji with ⟨hjl',hji⟩ | ⟨hge,rfl⟩
     · have hil : i < H.length := h.lt i (mem_of_getElem? hji);rw [globH,List.getElem?_append_left (by rw [put_length]; exact hil)];exact put_at H ids H H' i j _ h.nodup h.lt hji hq
     · rw [globH,List.getElem?_append_right (by rw [put_length,h.emb.len]; omega),put_length,h.emb.len];rw [List.getElem?_map,List.getElem?_drop];rw [show ids.length + (H.length + (j - ids.length) - H.length) = j by omega,hq];rfl
    rw [hgo] at ho;simp only [Option.some.injEq] at ho;subst ho;exact h.OR ok (hl.imp id fun hp => List.all_eq_true.1 hp _ (mem_of_getElem? hq)) (h.emb'.obj j _ l hq hj)
  · have hil : i < H.length := by rw [← h.emb.len]; exact h1
    rw [globH,List.getElem?_append_left (by rw [put_length]; exact hil),put_other _ _ _ _ _ h2] at ho;refine OR.mono ok h.extE (fun b hb => ?_) (h.emb.obj i o l ho h3);subst hb;obtain ⟨k1,k2⟩ := h.own_lt h3 h2;exact h.ext.keep b k1 k2
 inj i j b hi hj := by
  rcases h.cases hi with ⟨p,hp,hpi⟩ | ⟨h1,h2,h3⟩ <;> rcases h.cases hj with ⟨q,hq,hqj⟩ | ⟨k1,k2,k3⟩
  · have := h.emb'.inj p q b hp hq;subst this
    rcases hpi with ⟨a1,a2⟩ | ⟨a1,a2⟩ <;> rcases hqj with ⟨b1,b2⟩ | ⟨b1,b2⟩
    · rw [a2] at b2; exact Option.some.inj b2
    · omega
    · omega
    · omega
  · exact absurd hp (h.own_not k3 k2 p)
  · exact absurd hq (h.own_not h3 h2 q)
  · exact h.emb.inj i j b h3 k3
 lt i b hi := by
  rcases h.cases hi with ⟨p,hp,_⟩ | ⟨_,_,h3⟩
  · exact h.emb'.lt p b hp
  · exact Nat.lt_of_lt_of_le (h.emb.lt i b h3) h.ext.size
 F b hF := by
  obtain ⟨h1,h2⟩ := h.emb.F b hF;refine ⟨Nat.lt_of_lt_of_le h1 h.ext.size,fun i hi => ?_⟩
  rcases h.cases hi with ⟨p,hp,_⟩ | ⟨_,_,h3⟩
  · rcases h.ext.fresh p b hp with ⟨a,ha⟩ | hle
    · obtain ⟨c,_,hc⟩ := h.sub.back ha;exact h2 c hc
    · omega
  · exact h2 i h3
 gl := h.emb.gl.ext ok h.extE
end
end Sh
end Go.Proofs.YtomdfaelgcefdaaGreatDoor
namespace Go.Proofs.YtomdfaelgcefdaaGreatDoor
open Go
namespace Sh
variable {K : Type} {El : K → Type} {S : Seat K El}
theorem add_lit (b o n : Nat) : (⟨b,o,none⟩ : Addr).add n = ⟨b,o + n,none⟩ := by unfold Addr.add; split <;> simp_all
theorem VR.one_of {E : Env} {w : World} {u : AV K El} {v : Value} (h : VR S E w u v) (hu : u.one = true) : VR2 S E w u v := by
 cases u <;> first | exact h | simp [AV.one] at hu
section
variable (ok : Ok S) {E : Env} {H : Heap K El} {w w1 : World}
theorem shape_push {o : Obj} (hh : w1.heap = w.heap.push o) {b : Nat} {s : TypeId × Nat} (h : w.shape? b = some s) : w1.shape? b = some s := by
 have hb : b < w.heap.size := by
  rcases Nat.lt_or_ge b w.heap.size with hlt | hge
  · exact hlt
  · simp [World.shape?,Array.getElem?_eq_none hge] at h
 have he : w1.heap[b]? = w.heap[b]? := by rw [hh,Array.getElem?_push]; simp [Nat.ne_of_lt hb]
 simp only [World.shape?] at h ⊢;rw [he];exact h
theorem heap_push_old {o : Obj} (hh : w1.heap = w.heap.push o) {b : Nat} (hb : b < w.heap.size) : w1.heap[b]? = w.heap[b]? := by
 rw [hh,Array.getElem?_push]; simp [Nat.ne_of_lt hb]
theorem ext_push {o : Obj} (hh : w1.heap = w.heap.push o) (ht : w1.tape = w.tape) (hos : w1.os = w.os) (hout : w1.output = w.output) : Ext E w ⟨E.ρ ++ [.blk w.heap.size],E.F⟩ w1 where
 size := by rw [hh]; simp
 keep b hb _ := heap_push_old hh hb
 shape b s h := shape_push hh h
 mono i l hl := .inl (by simp only []; rw [List.getElem?_append_left (List.getElem?_eq_some_iff.1 hl).1]; exact hl)
 fresh i b hi := by
  simp only [] at hi
  rcases Nat.lt_or_ge i E.ρ.length with hlt | hge
  · rw [List.getElem?_append_left hlt] at hi; exact .inl ⟨i,hi⟩
  · rw [List.getElem?_append_right hge] at hi
    cases hq : i - E.ρ.length with
    | zero => rw [hq] at hi; simp at hi; exact .inr (by omega)
    | succ n => rw [hq] at hi; simp at hi
 F := rfl
 os := hos
 tape := ht
 output := hout
include ok in
theorem emb_pushO (h : Emb S E H w) {ob : Obj} (hh : w1.heap = w.heap.push ob) (ht : w1.tape = w.tape) (hos : w1.os = w.os) (hout : w1.output = w.output)
    {o : AO K El} (ho : OR S ⟨E.ρ ++ [.blk w.heap.size],E.F⟩ w1 o (.blk w.heap.size)) : Emb S ⟨E.ρ ++ [.blk w.heap.size],E.F⟩ (H ++ [o]) w1 := by
 have hx : Ext E w ⟨E.ρ ++ [.blk w.heap.size],E.F⟩ w1 := ext_push hh ht hos hout
 have split : ∀ (i : Nat) (l : Loc),(E.ρ ++ [.blk w.heap.size])[i]? = some l → (E.ρ[i]? = some l ∧ i < E.ρ.length) ∨ (i = E.ρ.length ∧ l = .blk w.heap.size) := by
  intro i l hi
  rcases Nat.lt_or_ge i E.ρ.length with hlt | hge
  · rw [List.getElem?_append_left hlt] at hi; exact .inl ⟨hi,hlt⟩
  · rw [List.getElem?_append_right hge] at hi
    cases hq : i - E.ρ.length with
    | zero => rw [hq] at hi; simp at hi; exact .inr ⟨by omega,hi.symm⟩
    | succ n => rw [hq] at hi; simp at hi
 refine ⟨by simp [h.len],fun i o' l ho' hi => ?_,fun i j b hi hj => ?_,fun i b hi => ?_,fun b hF => ⟨by have := (h.F b hF).1; rw [hh]; simp; omega,fun i hi => ?_⟩,h.gl.ext ok hx⟩
 · rcases split i l hi with ⟨h1,h2⟩ | ⟨rfl,rfl⟩
   · rw [List.getElem?_append_left (by rw [← h.len]; exact h2)] at ho';exact OR.mono ok hx (fun b hb => by subst hb; exact heap_push_old hh (h.lt i b h1)) (h.obj i o' l ho' h1)
   · rw [h.len,List.getElem?_append_right (Nat.le_refl _)] at ho';simp at ho';subst ho';exact ho
 · rcases split i _ hi with ⟨h1,h2⟩ | ⟨rfl,h2⟩ <;> rcases split j _ hj with ⟨k1,k2⟩ | ⟨rfl,k2⟩
   · exact h.inj i j b h1 k1
   · have := h.lt i b h1; simp only [Loc.blk.injEq] at k2; omega
   · have := h.lt j b k1; simp only [Loc.blk.injEq] at h2; omega
   · rfl
 · rcases split i _ hi with ⟨h1,h2⟩ | ⟨rfl,h2⟩
   · have := h.lt i b h1; rw [hh]; simp; omega
   · simp only [Loc.blk.injEq] at h2; subst h2; rw [hh]; simp
 · rcases split i _ hi with ⟨h1,h2⟩ | ⟨rfl,h2⟩
   · exact (h.F b hF).2 i h1
   · have := (h.F b hF).1; simp only [Loc.blk.injEq] at h2; omega
include ok in
theorem emb_push (h : Emb S E H w) {c : Array Value} {e : TypeId} (hh : w1.heap = w.heap.push (.cells c e)) (ht : w1.tape = w.tape) (hos : w1.os = w.os) (hout : w1.output = w.output)
    {o : AO K El} (ho : OR S ⟨E.ρ ++ [.blk w.heap.size],E.F⟩ w1 o (.blk w.heap.size)) : Emb S ⟨E.ρ ++ [.blk w.heap.size],E.F⟩ (H ++ [o]) w1 := emb_pushO ok h hh ht hos hout ho
theorem ext_setIter {i b : Nat} {s : ByteArray} {p q : Nat} (hi : E.ρ[i]? = some (.blk b)) (hb : w.heap[b]? = some (.stringIter s p)) : Ext E w E { w with heap := w.heap.setIfInBounds b (.stringIter s q) } where
 size := by simp
 keep b' _ hn := by
  have : b ≠ b' := fun e => hn i (e ▸ hi);simp only [];rw [Array.getElem?_setIfInBounds_ne this]
 shape b' s' h := by
  have : b ≠ b' := by
   rintro rfl;simp [World.shape?,hb] at h
  simp only [World.shape?] at h ⊢;rw [Array.getElem?_setIfInBounds_ne this];exact h
 mono _ _ h := .inl h
 fresh j b' h := .inl ⟨j,h⟩
 F := rfl
 os := rfl
 tape := rfl
 output := rfl
include ok in
theorem emb_setIter (h : Emb S E H w) {i b : Nat} {s : ByteArray} {p q : Nat} (hi : E.ρ[i]? = some (.blk b)) (hb : w.heap[b]? = some (.stringIter s p)) :
    Emb S E (H.set i (.siter s q)) { w with heap := w.heap.setIfInBounds b (.stringIter s q) } where
 len := by simp [h.len]
 obj j o' l ho' hl := by
  by_cases hj : j = i
  · subst hj;rw [List.getElem?_set_self (by have := (List.getElem?_eq_some_iff.1 ho').1; simpa using this)] at ho';simp only [Option.some.injEq] at ho';subst ho';rw [hi] at hl;simp only [Option.some.injEq] at hl;subst hl;have hlt : b < w.heap.size := (Array.getElem?_eq_some_iff.1 hb).1;show (w.heap.setIfInBounds b (.stringIter s q))[b]? = _;simp [hlt]
  · rw [List.getElem?_set_ne (fun e => hj e.symm)] at ho';refine OR.mono ok (ext_setIter hi hb) (fun b' hb' => ?_) (h.obj j o' l ho' hl);subst hb';have : b ≠ b' := fun e => hj (h.inj j i b (e ▸ hl) hi);simp only [];rw [Array.getElem?_setIfInBounds_ne this]
 inj := h.inj
 lt j b' hj := by simpa using h.lt j b' hj
 F b' hF := by simpa using h.F b' hF
 gl := h.gl.ext ok (ext_setIter hi hb)
theorem ext_nil (hh : w1.heap = w.heap) (ht : w1.tape = w.tape) (hos : w1.os = w.os) (hout : w1.output = w.output) : Ext E w ⟨E.ρ ++ [.nil],E.F⟩ w1 where
 size := by rw [hh]; exact Nat.le_refl _
 keep b _ _ := by rw [hh]
 shape b s h := by simp only [World.shape?] at h ⊢; rw [hh]; exact h
 mono i l hl := .inl (by simp only []; rw [List.getElem?_append_left (List.getElem?_eq_some_iff.1 hl).1]; exact hl)
 fresh i b hi := by
  simp only [] at hi
  rcases Nat.lt_or_ge i E.ρ.length with hlt | hge
  · rw [List.getElem?_append_left hlt] at hi; exact .inl ⟨i,hi⟩
  · rw [List.getElem?_append_right hge] at hi
    cases hq : i - E.ρ.length with
    | zero => rw [hq] at hi; simp at hi
    | succ n => rw [hq] at hi; simp at hi
 F := rfl
 os := hos
 tape := ht
 output := hout
include ok in
theorem emb_nil (h : Emb S E H w) (k : K) : Emb S ⟨E.ρ ++ [.nil],E.F⟩ (H ++ [.row k []]) w := by
 have hx : Ext E w ⟨E.ρ ++ [.nil],E.F⟩ w := ext_nil rfl rfl rfl rfl
 have split : ∀ (i : Nat) (l : Loc),(E.ρ ++ [.nil])[i]? = some l → (E.ρ[i]? = some l ∧ i < E.ρ.length) ∨ (i = E.ρ.length ∧ l = .nil) := by
  intro i l hi
  rcases Nat.lt_or_ge i E.ρ.length with hlt | hge
  · rw [List.getElem?_append_left hlt] at hi; exact .inl ⟨hi,hlt⟩
  · rw [List.getElem?_append_right hge] at hi
    cases hq : i - E.ρ.length with
    | zero => rw [hq] at hi; simp at hi; exact .inr ⟨by omega,hi.symm⟩
    | succ n => rw [hq] at hi; simp at hi
 refine ⟨by simp [h.len],fun i o' l ho' hi => ?_,fun i j b hi hj => ?_,fun i b hi => ?_,fun b hF => ⟨(h.F b hF).1,fun i hi => ?_⟩,h.gl.ext ok hx⟩
 · rcases split i l hi with ⟨h1,h2⟩ | ⟨rfl,rfl⟩
   · rw [List.getElem?_append_left (by rw [← h.len]; exact h2)] at ho';exact OR.mono ok hx (fun b _ => rfl) (h.obj i o' l ho' h1)
   · rw [h.len,List.getElem?_append_right (Nat.le_refl _)] at ho';simp at ho';subst ho';rfl
 · rcases split i _ hi with ⟨h1,h2⟩ | ⟨rfl,h2⟩ <;> rcases split j _ hj with ⟨k1,k2⟩ | ⟨rfl,k2⟩
   · exact h.inj i j b h1 k1
   · cases k2
   · cases h2
   · rfl
 · rcases split i _ hi with ⟨h1,_⟩ | ⟨_,h2⟩
   · exact h.lt i b h1
   · cases h2
 · rcases split i _ hi with ⟨h1,_⟩ | ⟨_,h2⟩
   · exact (h.F b hF).2 i h1
   · cases h2
def Env.drop (E : Env) (i : Nat) : Env := ⟨E.ρ.set i .gone,E.F⟩
theorem drop_at {i j : Nat} {l : Loc} (h : (E.drop i).ρ[j]? = some l) : (j ≠ i ∧ E.ρ[j]? = some l) ∨ (j = i ∧ l = .gone) := by
 simp only [Env.drop] at h
 by_cases hj : j = i
 · subst hj;rw [List.getElem?_set_self (by have := (List.getElem?_eq_some_iff.1 h).1; simpa using this)] at h;exact .inr ⟨rfl,(Option.some.inj h).symm⟩
 · rw [List.getElem?_set_ne (fun e => hj e.symm)] at h;exact .inl ⟨hj,h⟩
theorem ext_drop (i : Nat) : Ext E w (E.drop i) w where
 size := Nat.le_refl _
 keep _ _ _ := rfl
 shape _ _ h := h
 mono j l hl := by
  by_cases hj : i = j
  · subst hj;exact .inr (by simp only [Env.drop]; rw [List.getElem?_set_self (List.getElem?_eq_some_iff.1 hl).1])
  · exact .inl (by simp only [Env.drop]; rw [List.getElem?_set_ne hj]; exact hl)
 fresh j b hj := by
  rcases drop_at hj with ⟨_,h1⟩ | ⟨_,h1⟩
  · exact .inl ⟨j,h1⟩
  · cases h1
 F := rfl
 os := rfl
 tape := rfl
 output := rfl
include ok in
theorem emb_drop (h : Emb S E H w) (i : Nat) : Emb S (E.drop i) (H.set i .gone) w where
 len := by simp [Env.drop,h.len]
 obj j o l ho hl := by
  rcases drop_at hl with ⟨h1,h2⟩ | ⟨rfl,rfl⟩
  · rw [List.getElem?_set_ne (fun e => h1 e.symm)] at ho;exact OR.mono ok (ext_drop i) (fun _ _ => rfl) (h.obj j o l ho h2)
  · rw [List.getElem?_set_self (by have := (List.getElem?_eq_some_iff.1 ho).1; simpa using this)] at ho;simp only [Option.some.injEq] at ho;subst ho;trivial
 inj j k b hj hk := by
  rcases drop_at hj with ⟨_,h1⟩ | ⟨_,h1⟩ <;> rcases drop_at hk with ⟨_,h2⟩ | ⟨_,h2⟩
  · exact h.inj j k b h1 h2
  · cases h2
  · cases h1
  · cases h1
 lt j b hj := by
  rcases drop_at hj with ⟨_,h1⟩ | ⟨_,h1⟩
  · exact h.lt j b h1
  · cases h1
 F b hF := ⟨(h.F b hF).1,fun j hj => by
  rcases drop_at hj with ⟨_,h1⟩ | ⟨_,h1⟩
  · exact (h.F b hF).2 j h1
  · cases h1⟩
 gl := h.gl.ext ok (ext_drop i)
theorem shape_setRow {b b' : Nat} {c c' : Array Value} {e : TypeId} {fr : Nat × Nat} (hb : w.heap[b]? = some (.cells c e fr)) (hc : c'.size = c.size) {s : TypeId × Nat} (h : w.shape? b' = some s) :
    (w.setRow b c').shape? b' = some s := by
 by_cases hq : b' = b
 · subst hq;simp only [World.shape?,hb] at h;simp only [World.shape?,setRow_heap w b' c c' e fr hb,hc];exact h
 · simp only [World.shape?] at h ⊢;rw [setRow_other w b b' c' hq];exact h
theorem ext_setRow {i b : Nat} {c c' : Array Value} {e : TypeId} {fr : Nat × Nat} (hi : E.ρ[i]? = some (.blk b)) (hb : w.heap[b]? = some (.cells c e fr)) (hc : c'.size = c.size) : Ext E w E (w.setRow b c') where
 size := by simp
 keep b' _ hn := setRow_other w b b' c' (fun e => hn i (e ▸ hi))
 shape b' s h := shape_setRow hb hc h
 mono _ _ h := .inl h
 fresh j b' h := .inl ⟨j,h⟩
 F := rfl
 os := rfl
 tape := rfl
 output := rfl
include ok in
theorem emb_setRow (h : Emb S E H w) {i b : Nat} {c c' : Array Value} {e : TypeId} {fr : Nat × Nat} (hi : E.ρ[i]? = some (.blk b)) (hb : w.heap[b]? = some (.cells c e fr)) (hc : c'.size = c.size) {o : AO K El}
    (ho : OR S E (w.setRow b c') o (.blk b)) : Emb S E (H.set i o) (w.setRow b c') where
 len := by simp [h.len]
 obj j o' l ho' hl := by
  by_cases hj : j = i
  · subst hj;rw [List.getElem?_set_self (by have := (List.getElem?_eq_some_iff.1 ho').1; simpa using this)] at ho';simp only [Option.some.injEq] at ho';subst ho';rw [hi] at hl;simp only [Option.some.injEq] at hl;subst hl;exact ho
  · rw [List.getElem?_set_ne (fun e => hj e.symm)] at ho';refine OR.mono ok (ext_setRow hi hb hc) (fun b' hb' => ?_) (h.obj j o' l ho' hl);subst hb';exact setRow_other w b b' c' (fun e => hj (h.inj j i b (e ▸ hl) hi))
 inj := h.inj
 lt j b' hj := by simpa using h.lt j b' hj
 F b' hF := by simpa using h.F b' hF
 gl := h.gl.ext ok (ext_setRow hi hb hc)
include ok in
theorem rd_sound (h : Emb S E H w) {a : AV K El} {n : Nat} {k : List (AV K El) → Prop} (hr : rd S H a n k) {v : Value} (hv : VR S E w a v) :
    ∃ us b o,∃ cs : List Value,k us ∧ v = .pointer (some ⟨b,o,none⟩) ∧ us.length = n ∧ cs.length = n ∧
     (∀ (j : Nat) u,us[j]? = some u → ∃ c,cs[j]? = some c ∧ u.one = true ∧ VR S E w u c) ∧ ∀ (j : Nat) c,cs[j]? = some c → w.cell? ⟨b,o + j,none⟩ = some c := by
 cases hv with
 | ptr hi =>
  rename_i i off b;simp only [rd] at hr;split at hr
  · rename_i vs hx;obtain ⟨hle,hk⟩ := hr;obtain ⟨c,e,hb,hsz,hc⟩ : OR S E w (.cells vs) (.blk b) := h.obj i _ _ hx hi;refine ⟨_,b,off,(c.toList.drop off).take n,hk,rfl,by simp; omega,by simp; omega,fun j u hu => ?_,fun j c' hc' => ?_⟩
    · have hj : j < n := by have := (List.getElem?_eq_some_iff.1 hu).1; simp at this; omega
      rw [List.getElem?_take_of_lt hj,List.getElem?_drop] at hu;obtain ⟨v,h1,h2,h3⟩ := hc _ u hu;refine ⟨v,?_,h2,h3⟩;rw [List.getElem?_take_of_lt hj,List.getElem?_drop];simpa using h1
    · have hj : j < n := by have := (List.getElem?_eq_some_iff.1 hc').1; simp at this; omega
      rw [List.getElem?_take_of_lt hj,List.getElem?_drop] at hc';simp only [World.cell?,hb];simpa using hc'
  · exact hr.elim
 | eptr hi =>
  rename_i k' i e off b;simp only [rd] at hr;split at hr
  · rename_i kr xs hx;obtain ⟨rfl,he,hle,hk⟩ := hr;obtain ⟨c,hb,hsz,hc⟩ : OR S E w (.row kr xs) (.blk b) := h.obj i _ _ hx hi;have hg : xs[e]? = some (xs.getD e (S.zero kr)) := by simp [List.getD,List.getElem?_eq_getElem he]
    have hlen := ok.enc_len kr (xs.getD e (S.zero kr));have hee : (e + 1) * S.size kr ≤ xs.length * S.size kr := Nat.mul_le_mul_right _ he;rw [Nat.succ_mul] at hee;refine ⟨_,b,e * S.size kr + off,(c.toList.drop (e * S.size kr + off)).take n,hk,rfl,by rw [List.length_take,List.length_drop]; omega,by simp; omega,fun j u hu => ?_,fun j c' hc' => ?_⟩
    · have hj : j < n := by have := (List.getElem?_eq_some_iff.1 hu).1; simp at this; omega
      rw [List.getElem?_take_of_lt hj,List.getElem?_drop] at hu;obtain ⟨v,h1,h3⟩ := hc e _ hg _ u hu;refine ⟨v,?_,ok.one _ _ _ (mem_of_getElem? hu),h3⟩;rw [List.getElem?_take_of_lt hj,List.getElem?_drop];simpa [Nat.add_assoc] using h1
    · have hj : j < n := by have := (List.getElem?_eq_some_iff.1 hc').1; simp at this; omega
      rw [List.getElem?_take_of_lt hj,List.getElem?_drop] at hc';simp only [World.cell?,hb];simpa using hc'
  · rename_i kr xs e0 vs hx;obtain ⟨rfl,rfl,hle,hk⟩ := hr;obtain ⟨c,hb,hsz,he,hvl,_,hc⟩ : OR S E w (.rowx kr xs e vs) (.blk b) := h.obj i _ _ hx hi;have hee : (e + 1) * S.size kr ≤ xs.length * S.size kr := Nat.mul_le_mul_right _ he;rw [Nat.succ_mul] at hee;refine ⟨_,b,e * S.size kr + off,(c.toList.drop (e * S.size kr + off)).take n,hk,rfl,by rw [List.length_take,List.length_drop]; omega,by simp; omega,fun j u hu => ?_,fun j c' hc' => ?_⟩
    · have hj : j < n := by have := (List.getElem?_eq_some_iff.1 hu).1; simp at this; omega
      rw [List.getElem?_take_of_lt hj,List.getElem?_drop] at hu;obtain ⟨v,h1,h2,h3⟩ := hc _ u hu;refine ⟨v,?_,h2,h3⟩;rw [List.getElem?_take_of_lt hj,List.getElem?_drop];simpa [Nat.add_assoc] using h1
    · have hj : j < n := by have := (List.getElem?_eq_some_iff.1 hc').1; simp at this; omega
      rw [List.getElem?_take_of_lt hj,List.getElem?_drop] at hc';simp only [World.cell?,hb];simpa using hc'
  · exact hr.elim
 | ptrGone hi _ =>
  rename_i i off _;simp only [rd] at hr;split at hr
  · rename_i vs hx; exact (h.obj i _ _ hx hi : OR S E w (.cells vs) .gone).elim
  · exact hr.elim
 | eptrGone hi _ =>
  rename_i k' i e off _;simp only [rd] at hr;split at hr
  · rename_i kr xs hx; exact (h.obj i _ _ hx hi : OR S E w (.row kr xs) .gone).elim
  · rename_i kr xs e0 vs hx; exact (h.obj i _ _ hx hi : OR S E w (.rowx kr xs e0 vs) .gone).elim
  · exact hr.elim
 | iptr b o cs hs hc hv =>
  rename_i k' xs e off;obtain ⟨he,hle,hk⟩ := hr;have hg : xs[e]? = some (xs.getD e (S.zero k')) := by simp [List.getD,List.getElem?_eq_getElem he]
  have hlen := ok.enc_len k' (xs.getD e (S.zero k'));have hee : (e + 1) * S.size k' ≤ xs.length * S.size k' := Nat.mul_le_mul_right _ he;rw [Nat.succ_mul] at hee;refine ⟨_,b,o + (e * S.size k' + off),(List.range n).map fun j => cs (e * S.size k' + off + j),hk,rfl,by rw [List.length_take,List.length_drop]; omega,by simp,fun j u hu => ?_,fun j c' hc' => ?_⟩
  · have hj : j < n := by have := (List.getElem?_eq_some_iff.1 hu).1; simp at this; omega
    rw [List.getElem?_take_of_lt hj,List.getElem?_drop] at hu;refine ⟨_,?_,ok.one _ _ _ (mem_of_getElem? hu),hv e _ _ u hg hu⟩;simp [hj,Nat.add_assoc]
  · have hj : j < n := by have := (List.getElem?_eq_some_iff.1 hc').1; simpa using this
    simp [hj] at hc';subst hc';have := hc (e * S.size k' + off + j) (by omega);rw [← this]
    congr 2
    omega
 | _ => exact hr.elim
theorem splice_get {α : Type} {vs us : List α} {off j : Nat} (hle : off + us.length ≤ vs.length) : (splice vs off us)[j]? = if j < off then vs[j]? else if j < off + us.length then us[j - off]? else vs[j]? := by
 unfold splice;rw [List.append_assoc]
 by_cases h1 : j < off
 · rw [List.getElem?_append_left (by simp; omega),List.getElem?_take_of_lt h1]; simp [h1]
 · rw [List.getElem?_append_right (by simp; omega)];have hl : (vs.take off).length = off := by simp; omega
   rw [hl]
   by_cases h2 : j < off + us.length
   · rw [List.getElem?_append_left (by omega)]; simp [h1,h2]
   · rw [List.getElem?_append_right (by omega),List.getElem?_drop];simp only [h1,h2,if_false]
     congr 1
     omega
theorem splice_length {α : Type} {vs us : List α} {off : Nat} (hle : off + us.length ≤ vs.length) : (splice vs off us).length = vs.length := by
 unfold splice; simp; omega
include ok in
theorem wr_sound (h : Emb S E H w) {a : AV K El} {us : List (AV K El)} {k : Heap K El → Prop} (hr : wr S H a us k) {v : Value} (hv : VR S E w a v)
    {cs : List Value} (hl : cs.length = us.length) (hcs : ∀ (j : Nat) u,us[j]? = some u → ∃ c,cs[j]? = some c ∧ u.one = true ∧ VR S E w u c) :
    ∃ H' b o w',k H' ∧ v = .pointer (some ⟨b,o,none⟩) ∧ (storeCells ⟨b,o,none⟩ cs).run S.P w = .ok () w' ∧ Emb S E H' w' ∧ Ext E w E w' := by
 have hone : ∀ c ∈ cs,c.oneCell' = true := by
  intro c hc;obtain ⟨j,hj⟩ := List.mem_iff_getElem?.1 hc;have hjl : j < us.length := by have := (List.getElem?_eq_some_iff.1 hj).1; omega
  obtain ⟨c',h1,h2,h3⟩ := hcs j us[j] (List.getElem?_eq_getElem hjl);rw [hj] at h1;simp only [Option.some.injEq] at h1;subst h1;exact h3.oneCell h2
 have hset : ∀ (c : Array Value) (o : Nat),o + cs.length ≤ c.size → (c.toList.take (o + 0) ++ cs ++ c.toList.drop (o + 0 + cs.length)).toArray.size = c.size := by
  intro c o ho;simp; omega
 have hget : ∀ (c : Array Value) (o j : Nat),o + cs.length ≤ c.size → (c.toList.take (o + 0) ++ cs ++ c.toList.drop (o + 0 + cs.length)).toArray[j]? = if j < o then c[j]? else if j < o + cs.length then cs[j - o]? else c[j]? := by
  intro c o j ho;have := splice_get (vs := c.toList) (us := cs) (off := o) (j := j) (by simpa using ho);simpa [splice] using this
 cases hv with
 | ptr hi =>
  rename_i i off b;simp only [wr] at hr;split at hr
  · rename_i vs hx;obtain ⟨hle,hk⟩ := hr;obtain ⟨c,e,hb,hsz,hc⟩ : OR S E w (.cells vs) (.blk b) := h.obj i _ _ hx hi;have hfit : off + cs.length ≤ c.size := by omega
    have hrun := run_storeCells_at S.P b off e cs 0 c w hb (by simpa using hfit) hone;have hs := hset c off hfit;have hxt := ext_setRow hi hb hs;refine ⟨_,b,off,_,hk,rfl,hrun,emb_setRow ok h hi hb hs ⟨_,e,setRow_heap w b c _ e _ hb,?_,fun j u hu => ?_⟩,hxt⟩
    · rw [hs,splice_length hle]; exact hsz
    · rw [hget c off j hfit];rw [splice_get hle] at hu
      by_cases h1 : j < off
      · simp only [h1,if_true] at hu ⊢;obtain ⟨v,k1,k2,k3⟩ := hc j u hu;exact ⟨v,k1,k2,VR.mono ok hxt k3⟩
      · by_cases h2 : j < off + us.length
        · have h2' : j < off + cs.length := by omega
          simp only [h1,h2,h2',if_true,if_false] at hu ⊢;obtain ⟨v,k1,k2,k3⟩ := hcs _ u hu;exact ⟨v,k1,k2,VR.mono ok hxt k3⟩
        · have h2' : ¬ j < off + cs.length := by omega
          simp only [h1,h2,h2',if_false] at hu ⊢;obtain ⟨v,k1,k2,k3⟩ := hc j u hu;exact ⟨v,k1,k2,VR.mono ok hxt k3⟩
  · exact hr.elim
 | eptr hi =>
  rename_i k' i e off b;simp only [wr] at hr;split at hr
  · rename_i kr xs hx;obtain ⟨rfl,he,hle,hk⟩ := hr;split at hk
    · rename_i x hux;obtain ⟨c,hb,hsz,hc⟩ : OR S E w (.row kr xs) (.blk b) := h.obj i _ _ hx hi;have hg : xs[e]? = some (xs.getD e (S.zero kr)) := by simp [List.getD,List.getElem?_eq_getElem he]
      have hlen := ok.enc_len kr (xs.getD e (S.zero kr));have henc := ok.unc_enc _ _ _ hux;have hee : (e + 1) * S.size kr ≤ xs.length * S.size kr := Nat.mul_le_mul_right _ he;rw [Nat.succ_mul] at hee;have hfit : e * S.size kr + off + cs.length ≤ c.size := by omega
      have hrun := run_storeCells_at S.P b (e * S.size kr + off) (S.ty kr) cs 0 c w hb (by simpa using hfit) hone;have hs := hset c (e * S.size kr + off) hfit;have hxt := ext_setRow hi hb hs;refine ⟨_,b,e * S.size kr + off,_,hk,rfl,hrun,emb_setRow ok h hi hb hs ⟨_,setRow_heap w b c _ _ _ hb,?_,fun j y hy t u hu => ?_⟩,hxt⟩
      · rw [hs,List.length_set]; exact hsz
      · rw [hget c _ _ hfit];have htl : t < S.size kr := by rw [← ok.enc_len kr y]; exact (List.getElem?_eq_some_iff.1 hu).1
        by_cases hj : j = e
        · subst hj;rw [List.getElem?_set_self he] at hy;simp only [Option.some.injEq] at hy;subst hy;rw [henc,splice_get (by omega)] at hu
          by_cases h1 : t < off
          · have h1' : j * S.size kr + t < j * S.size kr + off := by omega
            simp only [h1,h1',if_true] at hu ⊢;obtain ⟨v,k1,k3⟩ := hc j _ hg t u hu;exact ⟨v,k1,VR.mono ok hxt k3⟩
          · have h1' : ¬ j * S.size kr + t < j * S.size kr + off := by omega
            by_cases h2 : t < off + us.length
            · have h2' : j * S.size kr + t < j * S.size kr + off + cs.length := by omega
              simp only [h1,h1',h2,h2',if_true,if_false] at hu ⊢;obtain ⟨v,k1,k2,k3⟩ := hcs _ u hu;refine ⟨v,?_,VR.mono ok hxt k3⟩;rw [← k1]; congr 1; omega
            · have h2' : ¬ j * S.size kr + t < j * S.size kr + off + cs.length := by omega
              simp only [h1,h1',h2,h2',if_false] at hu ⊢;obtain ⟨v,k1,k3⟩ := hc j _ hg t u hu;exact ⟨v,k1,VR.mono ok hxt k3⟩
        · rw [List.getElem?_set_ne (fun q => hj q.symm)] at hy;obtain ⟨v,k1,k3⟩ := hc j y hy t u hu;refine ⟨v,?_,VR.mono ok hxt k3⟩
          by_cases hlt : j < e
          · have : (j + 1) * S.size kr ≤ e * S.size kr := Nat.mul_le_mul_right _ hlt;rw [Nat.succ_mul] at this;have h1' : j * S.size kr + t < e * S.size kr + off := by omega
            simp only [h1',if_true]; exact k1
          · have : (e + 1) * S.size kr ≤ j * S.size kr := Nat.mul_le_mul_right _ (by omega);rw [Nat.succ_mul] at this;have h1' : ¬ j * S.size kr + t < e * S.size kr + off := by omega
            have h2' : ¬ j * S.size kr + t < e * S.size kr + off + cs.length := by omega
            simp only [h1',h2',if_false]; exact k1
    · exact hk.elim
  · rename_i kr xs e0 vs hx;obtain ⟨rfl,rfl,hle,hk⟩ := hr;obtain ⟨c,hb,hsz,he,hvl,ho,hc⟩ : OR S E w (.rowx kr xs e vs) (.blk b) := h.obj i _ _ hx hi;have hee : (e + 1) * S.size kr ≤ xs.length * S.size kr := Nat.mul_le_mul_right _ he;rw [Nat.succ_mul] at hee;have hfit : e * S.size kr + off + cs.length ≤ c.size := by omega
    have hrun := run_storeCells_at S.P b (e * S.size kr + off) (S.ty kr) cs 0 c w hb (by simpa using hfit) hone;have hs := hset c (e * S.size kr + off) hfit;have hxt := ext_setRow hi hb hs;refine ⟨_,b,e * S.size kr + off,_,hk,rfl,hrun,emb_setRow ok h hi hb hs ⟨_,setRow_heap w b c _ _ _ hb,?_,he,by rw [splice_length hle]; exact hvl,fun j y hj hy t u hu => ?_,fun t u hu => ?_⟩,hxt⟩
    · rw [hs]; exact hsz
    · rw [hget c _ _ hfit];have htl : t < S.size kr := by rw [← ok.enc_len kr y]; exact (List.getElem?_eq_some_iff.1 hu).1
      obtain ⟨v,k1,k3⟩ := ho j y hj hy t u hu;refine ⟨v,?_,VR.mono ok hxt k3⟩
      by_cases hlt : j < e
      · have : (j + 1) * S.size kr ≤ e * S.size kr := Nat.mul_le_mul_right _ hlt;rw [Nat.succ_mul] at this;have h1' : j * S.size kr + t < e * S.size kr + off := by omega
        simp only [h1',if_true]; exact k1
      · have : (e + 1) * S.size kr ≤ j * S.size kr := Nat.mul_le_mul_right _ (by omega);rw [Nat.succ_mul] at this;have h1' : ¬ j * S.size kr + t < e * S.size kr + off := by omega
        have h2' : ¬ j * S.size kr + t < e * S.size kr + off + cs.length := by omega
        simp only [h1',h2',if_false]; exact k1
    · rw [hget c _ _ hfit];rw [splice_get hle] at hu
      by_cases h1 : t < off
      · have h1' : e * S.size kr + t < e * S.size kr + off := by omega
        simp only [h1,h1',if_true] at hu ⊢;obtain ⟨v,k1,k2,k3⟩ := hc t u hu;exact ⟨v,k1,k2,VR.mono ok hxt k3⟩
      · have h1' : ¬ e * S.size kr + t < e * S.size kr + off := by omega
        by_cases h2 : t < off + us.length
        · have h2' : e * S.size kr + t < e * S.size kr + off + cs.length := by omega
          simp only [h1,h1',h2,h2',if_true,if_false] at hu ⊢;obtain ⟨v,k1,k2,k3⟩ := hcs _ u hu;refine ⟨v,?_,k2,VR.mono ok hxt k3⟩;rw [← k1]; congr 1; omega
        · have h2' : ¬ e * S.size kr + t < e * S.size kr + off + cs.length := by omega
          simp only [h1,h1',h2,h2',if_false] at hu ⊢;obtain ⟨v,k1,k2,k3⟩ := hc t u hu;exact ⟨v,k1,k2,VR.mono ok hxt k3⟩
  · exact hr.elim
 | ptrGone hi _ =>
  rename_i i off _;simp only [wr] at hr;split at hr
  · rename_i vs hx; exact (h.obj i _ _ hx hi : OR S E w (.cells vs) .gone).elim
  · exact hr.elim
 | eptrGone hi _ =>
  rename_i k' i e off _;simp only [wr] at hr;split at hr
  · rename_i kr xs hx; exact (h.obj i _ _ hx hi : OR S E w (.row kr xs) .gone).elim
  · rename_i kr xs e0 vs hx; exact (h.obj i _ _ hx hi : OR S E w (.rowx kr xs e0 vs) .gone).elim
  · exact hr.elim
 | _ => exact hr.elim
end
end Sh
end Go.Proofs.YtomdfaelgcefdaaGreatDoor
