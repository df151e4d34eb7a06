/- The shadow machine, part 2: how shadow values and heaps stand to the model's. -/
import Derived.Test.YtomdfaelgcefdaaGreatDoorSh1
namespace Go.Proofs.YtomdfaelgcefdaaGreatDoor
open Go
namespace Sh
variable {K : Type} {El : K → Type}

/-- Where the objects lie, and which blocks belong to somebody else. -/
structure Env where
  ρ : List Loc
  F : Nat → Prop

/-- A block that nobody of ours holds and nobody else will change. -/
def Stable (E : Env) (b : Nat) : Prop := (∀ i : Nat, E.ρ[i]? ≠ some (.blk b)) ∧ ¬ E.F b

inductive VR (S : Seat K El) (E : Env) (w : World) : AV K El → Value → Prop where
  | junk (v : Value) : VR S E w .junk v
  | cell (v : Value) (h : v.oneCell' = true) : VR S E w .cell v
  | bool (b : Bool) : VR S E w (.bool b) (.bool b)
  | int (k : IntKind) (n : Int) : VR S E w (.int k n) (.int k n)
  | str (s : ByteArray) : VR S E w (.str s) (.string s)
  | nilp : VR S E w .nilp (.pointer none)
  | ptr {i off b : Nat} (h : E.ρ[i]? = some (.blk b)) : VR S E w (.ptr i off) (.pointer (some ⟨b, off, none⟩))
  | ptrGone {i off : Nat} {v : Value} (h : E.ρ[i]? = some .gone) (hv : v.oneCell' = true) : VR S E w (.ptr i off) v
  | eptr {k : K} {i e off b : Nat} (h : E.ρ[i]? = some (.blk b)) : VR S E w (.eptr k i e off) (.pointer (some ⟨b, e * S.size k + off, none⟩))
  | eptrGone {k : K} {i e off : Nat} {v : Value} (h : E.ρ[i]? = some .gone) (hv : v.oneCell' = true) : VR S E w (.eptr k i e off) v
  | iptr {k : K} {xs : List (El k)} {e off : Nat} (b o : Nat) (cs : Nat → Value) (hs : xs ≠ [] → Stable E b)
      (hc : ∀ n, n < xs.length * S.size k → w.cell? ⟨b, o + n, none⟩ = some (cs n))
      (hv : ∀ (j : Nat) x (t : Nat) u, xs[j]? = some x → (S.enc k x)[t]? = some u → VR S E w u (cs (j * S.size k + t))) :
      VR S E w (.iptr k xs e off) (.pointer (some ⟨b, o + (e * S.size k + off), none⟩))
  | nils : VR S E w .nils (.slice none 0 0)
  | own {k : K} {i lo len : Nat} {c : Cp} {b o cap : Nat} (h : E.ρ[i]? = some (.blk b)) (hf : c = .full → cap = len)
      (hw : c = .whole → ∃ e, w.shape? b = some (e, (lo + cap) * S.size k)) (hle : len ≤ cap) (hm : cap ≤ maxLen)
      (ho : o = lo * S.size k ∨ (lo ≠ 0 ∧ len = 0 ∧ cap = 0)) : VR S E w (.own k i lo len c) (.slice (some ⟨b, o, none⟩) len cap)
  | ownNil {k : K} {i : Nat} {c : Cp} (h : E.ρ[i]? = some .nil) : VR S E w (.own k i 0 0 c) (.slice none 0 0)
  | ownGone {k : K} {i lo len : Nat} {c : Cp} {v : Value} (h : E.ρ[i]? = some .gone) (hv : v.oneCell' = true) : VR S E w (.own k i lo len c) v
  | imm {k : K} {xs : List (El k)} (b o cap : Nat) (cs : Nat → Value) (hs : xs ≠ [] → Stable E b) (hle : xs.length ≤ cap) (hm : cap ≤ maxLen)
      (hc : ∀ n, n < xs.length * S.size k → w.cell? ⟨b, o + n, none⟩ = some (cs n))
      (hv : ∀ (j : Nat) x (t : Nat) u, xs[j]? = some x → (S.enc k x)[t]? = some u → VR S E w u (cs (j * S.size k + t))) :
      VR S E w (.imm k xs) (.slice (some ⟨b, o, none⟩) xs.length cap)
  | immNil {k : K} (A : Option Addr) (cap : Nat) (hm : cap ≤ maxLen) : VR S E w (.imm k []) (.slice A 0 cap)
  | fn (f : Nat) : VR S E w (.fn f) (.func (.func f) #[] #[])
  | clo {f : Nat} {is : List (Option Nat)} {cs : Array Value} (hl : cs.size = is.length) (hn : ∀ j : Nat, is[j]? = some none → cs[j]? = some (.pointer none))
      (hp : ∀ j i : Nat, is[j]? = some (some i) → ∃ b, E.ρ[i]? = some (.blk b) ∧ cs[j]? = some (.pointer (some ⟨b, 0, none⟩))) : VR S E w (.clo f is) (.func (.func f) #[] cs)
  | cloGone {f i : Nat} {is : List (Option Nat)} {v : Value} (hi : some i ∈ is) (h : E.ρ[i]? = some .gone) (hv : v.oneCell' = true) : VR S E w (.clo f is) v
  | nilfn : VR S E w .nilfn .nilFunc
  | mp {i b : Nat} (h : E.ρ[i]? = some (.blk b)) : VR S E w (.mp i) (.map (some b))
  | mpGone {i : Nat} {v : Value} (h : E.ρ[i]? = some .gone) (hv : v.oneCell' = true) : VR S E w (.mp i) v
  | nilmap : VR S E w .nilmap (.map none)

theorem AV.data_one {u : AV K El} (h : u.data = true) : u.one = true := by cases u <;> first | rfl | simp [AV.data] at h

theorem VR.of_data {S : Seat K El} {E E' : Env} {w w' : World} {u : AV K El} {v : Value} (h : VR S E w u v) (hu : u.data = true) : VR S E' w' u v := by
  cases h <;> first | (simp [AV.data] at hu; done) | constructor

/-- A scalar, or a struct's cells. -/
def VR2 (S : Seat K El) (E : Env) (w : World) : AV K El → Value → Prop
  | .agg us, v => ∃ cs : Array Value, v = .agg cs ∧ cs.size = us.length ∧ ∀ (j : Nat) u, us[j]? = some u → ∃ c, cs[j]? = some c ∧ u.one = true ∧ VR S E w u c
  | u, v => VR S E w u v

/-- Any value. -/
def VRv (S : Seat K El) (E : Env) (w : World) : AV K El → Value → Prop
  | .tup us, v => ∃ cs : Array Value, v = .tuple cs ∧ cs.size = us.length ∧ ∀ (j : Nat) u, us[j]? = some u → ∃ c, cs[j]? = some c ∧ VR2 S E w u c
  | u, v => VR2 S E w u v

def OR (S : Seat K El) (E : Env) (w : World) : AO K El → Loc → Prop
  | .gone, _ => True
  | .cells vs, .blk b => ∃ c e, w.heap[b]? = some (.cells c e (0, 0)) ∧ c.size = vs.length ∧ ∀ (j : Nat) u, vs[j]? = some u → ∃ v, c[j]? = some v ∧ u.one = true ∧ VR S E w u v
  | .row k xs, .blk b => ∃ c, w.heap[b]? = some (.cells c (S.ty k) (0, 0)) ∧ xs.length * S.size k ≤ c.size ∧
      ∀ (j : Nat) x, xs[j]? = some x → ∀ (t : Nat) u, (S.enc k x)[t]? = some u → ∃ v, c[j * S.size k + t]? = some v ∧ VR S E w u v
  | .row _ xs, .nil => xs = []
  | .siter s pos, .blk b => w.heap[b]? = some (.stringIter s pos)
  | .rowx k xs e vs, .blk b => ∃ c, w.heap[b]? = some (.cells c (S.ty k) (0, 0)) ∧ xs.length * S.size k ≤ c.size ∧ e < xs.length ∧ vs.length = S.size k ∧
      (∀ (j : Nat) x, j ≠ e → xs[j]? = some x → ∀ (t : Nat) u, (S.enc k x)[t]? = some u → ∃ v, c[j * S.size k + t]? = some v ∧ VR S E w u v) ∧
      ∀ (t : Nat) u, vs[t]? = some u → ∃ v, c[e * S.size k + t]? = some v ∧ u.one = true ∧ VR S E w u v
  | .map es, .blk b => ∃ es' clock, w.heap[b]? = some (.map es' clock) ∧ es'.size = es.length ∧
      ∀ (j : Nat) e, es[j]? = some e → ∃ e', es'[j]? = some e' ∧ e.1.data = true ∧ e.2.data = true ∧ VR S E w e.1 e'.key ∧ VR S E w e.2 e'.val
  | .miter i, .blk b => ∃ m since clock, w.heap[b]? = some (.mapIter (some m) since #[] clock) ∧ (E.ρ[i]? = some (.blk m) ∨ E.ρ[i]? = some .gone)
  | _, _ => False

/-- What is known of the program's variables, and that these are nobody's. -/
structure GL (S : Seat K El) (E : Env) (w : World) : Prop where
  inv : S.inv w
  lt : ∀ b ∈ S.glb, b < w.heap.size
  st : ∀ b ∈ S.glb, Stable E b

structure Emb (S : Seat K El) (E : Env) (H : Heap K El) (w : World) : Prop where
  len : E.ρ.length = H.length
  obj : ∀ (i : Nat) (o : AO K El) (l : Loc), H[i]? = some o → E.ρ[i]? = some l → OR S E w o l
  inj : ∀ (i j b : Nat), E.ρ[i]? = some (.blk b) → E.ρ[j]? = some (.blk b) → i = j
  lt : ∀ (i b : Nat), E.ρ[i]? = some (.blk b) → b < w.heap.size
  F : ∀ b, E.F b → b < w.heap.size ∧ ∀ i : Nat, E.ρ[i]? ≠ some (.blk b)
  gl : GL S E w

structure Ext (E : Env) (w : World) (E' : Env) (w' : World) : Prop where
  size : w.heap.size ≤ w'.heap.size
  keep : ∀ b, b < w.heap.size → (∀ i : Nat, E.ρ[i]? ≠ some (.blk b)) → w'.heap[b]? = w.heap[b]?
  shape : ∀ b s, w.shape? b = some s → w'.shape? b = some s
  mono : ∀ (i : Nat) (l : Loc), E.ρ[i]? = some l → E'.ρ[i]? = some l ∨ E'.ρ[i]? = some .gone
  fresh : ∀ (i b : Nat), E'.ρ[i]? = some (.blk b) → (∃ j : Nat, E.ρ[j]? = some (.blk b)) ∨ w.heap.size ≤ b
  F : E'.F = E.F
  os : w'.os = w.os
  tape : w'.tape = w.tape
  output : w'.output = w.output

structure Ok (S : Seat K El) : Prop where
  enc_len : ∀ k x, (S.enc k x).length = S.size k
  unc_enc : ∀ k vs x, S.unc k vs = some x → S.enc k x = vs
  one : ∀ k x u, u ∈ S.enc k x → u.one = true
  pos : ∀ k, 0 < S.size k
  info : ∀ k, ∃ i z, S.P.info? (S.ty k) = some i ∧ i.size = S.size k ∧ i.zero = some z ∧ z.cells.size = S.size k ∧ i.bytes = S.bytes k ∧
    (z.cells.toList.mapM constAV : Option (List (AV K El))) = some (S.enc k (S.zero k))
  kd : ∀ t k, S.kd t = some k → t = S.ty k
  free : ∀ k x u, u ∈ S.enc k x → u.free = true
  flat : ∀ k x, S.flat k = true → ∀ u ∈ S.enc k x, pure1 u = true
  mixed : S.P.follows .mixedOrders = true
  keep : ∀ w w' : World, (∀ b ∈ S.glb, w'.heap[b]? = w.heap[b]?) → S.inv w → S.inv w'

/-! ### Growing -/
theorem Ext.refl {E : Env} {w : World} : Ext E w E w :=
  ⟨Nat.le_refl _, fun _ _ _ => rfl, fun _ _ h => h, fun _ _ h => .inl h, fun i _ h => .inl ⟨i, h⟩, rfl, rfl, rfl, rfl⟩

theorem Ext.trans {E E1 E2 : Env} {w w1 w2 : World} (h : Ext E w E1 w1) (h' : Ext E1 w1 E2 w2) : Ext E w E2 w2 where
  size := Nat.le_trans h.size h'.size
  keep b hb hn := by
    rw [h'.keep b (Nat.lt_of_lt_of_le hb h.size) ?_, h.keep b hb hn]
    intro i hi
    rcases h.fresh i b hi with ⟨j, hj⟩ | hle
    · exact hn j hj
    · omega
  shape b s hs := h'.shape b s (h.shape b s hs)
  mono i l hl := by
    rcases h.mono i l hl with h1 | h1
    · exact h'.mono i l h1
    · rcases h'.mono i _ h1 with h2 | h2 <;> exact .inr h2
  fresh i b hb := by
    rcases h'.fresh i b hb with ⟨j, hj⟩ | hle
    · exact h.fresh j b hj
    · exact .inr (Nat.le_trans h.size hle)
  F := h'.F.trans h.F
  os := h'.os.trans h.os
  tape := h'.tape.trans h.tape
  output := h'.output.trans h.output

theorem lt_of_cell {w : World} {b o : Nat} {v : Value} (h : w.cell? ⟨b, o, none⟩ = some v) : b < w.heap.size :=
  World.block_lt_of_cell? w _ h

theorem cell_of_heap {w w' : World} {b o : Nat} (h : w'.heap[b]? = w.heap[b]?) : w'.cell? ⟨b, o, none⟩ = w.cell? ⟨b, o, none⟩ := by
  simp [World.cell?, h]

theorem Stable.ext {E E' : Env} {w w' : World} (h : Ext E w E' w') {b : Nat} (hb : b < w.heap.size) (hs : Stable E b) : Stable E' b := by
  refine ⟨fun i hi => ?_, by rw [h.F]; exact hs.2⟩
  rcases h.fresh i b hi with ⟨j, hj⟩ | hle
  · exact hs.1 j hj
  · omega

theorem VR.oneCell {S : Seat K El} {E : Env} {w : World} {u : AV K El} {v : Value} (h : VR S E w u v) (hu : u.one = true) : v.oneCell' = true := by
  cases h <;> first | rfl | assumption | (simp [AV.one] at hu)

theorem GL.ext {S : Seat K El} (ok : Ok S) {E E' : Env} {w w' : World} (h : GL S E w) (hx : Ext E w E' w') : GL S E' w' :=
  ⟨ok.keep w w' (fun b hb => hx.keep b (h.lt b hb) (h.st b hb).1) h.inv, fun b hb => Nat.lt_of_lt_of_le (h.lt b hb) hx.size, fun b hb => (h.st b hb).ext hx (h.lt b hb)⟩

section
variable {S : Seat K El} (ok : Ok S) {E E' : Env} {w w' : World}
include ok

theorem VR.mono (h : Ext E w E' w') {u : AV K El} {v : Value} (hv : VR S E w u v) : VR S E' w' u v := by
  induction hv with
  | junk v => exact .junk v
  | cell v hv => exact .cell v hv
  | bool b => exact .bool b
  | int k n => exact .int k n
  | str s => exact .str s
  | nilp => exact .nilp
  | ptr hi => rcases h.mono _ _ hi with h1 | h1; exact .ptr h1; exact .ptrGone h1 rfl
  | ptrGone hi hv => rcases h.mono _ _ hi with h1 | h1 <;> exact .ptrGone h1 hv
  | eptr hi => rcases h.mono _ _ hi with h1 | h1; exact .eptr h1; exact .eptrGone h1 rfl
  | eptrGone hi hv => rcases h.mono _ _ hi with h1 | h1 <;> exact .eptrGone h1 hv
  | @iptr k xs e off b o cs hs hc hv ih =>
    have hpos := ok.pos k
    have hkeep : xs ≠ [] → b < w.heap.size ∧ w'.heap[b]? = w.heap[b]? := by
      intro hne
      have hl : 0 < xs.length := List.length_pos_iff.2 hne
      have hb := lt_of_cell (hc 0 (Nat.mul_pos hl hpos))
      exact ⟨hb, h.keep b hb (hs hne).1⟩
    have hne : ∀ n, n < xs.length * S.size k → xs ≠ [] := by rintro n hn rfl; simp at hn
    refine .iptr b o cs (fun hx => (hs hx).ext h (hkeep hx).1) (fun n hn => ?_) ih
    rw [cell_of_heap (hkeep (hne n hn)).2]; exact hc n hn
  | nils => exact .nils
  | own hi hf hw hle hm ho =>
    rcases h.mono _ _ hi with h1 | h1
    · exact .own h1 hf (fun hc => let ⟨e, he⟩ := hw hc; ⟨e, h.shape _ _ he⟩) hle hm ho
    · exact .ownGone h1 rfl
  | ownNil hi => rcases h.mono _ _ hi with h1 | h1; exact .ownNil h1; exact .ownGone h1 rfl
  | ownGone hi hv => rcases h.mono _ _ hi with h1 | h1 <;> exact .ownGone h1 hv
  | @imm k xs b o cap cs hs hle hm hc hv ih =>
    have hpos := ok.pos k
    have hkeep : xs ≠ [] → b < w.heap.size ∧ w'.heap[b]? = w.heap[b]? := by
      intro hne
      have hl : 0 < xs.length := List.length_pos_iff.2 hne
      have hb := lt_of_cell (hc 0 (Nat.mul_pos hl hpos))
      exact ⟨hb, h.keep b hb (hs hne).1⟩
    have hne : ∀ n, n < xs.length * S.size k → xs ≠ [] := by rintro n hn rfl; simp at hn
    refine .imm b o cap cs (fun hx => (hs hx).ext h (hkeep hx).1) hle hm (fun n hn => ?_) ih
    rw [cell_of_heap (hkeep (hne n hn)).2]; exact hc n hn
  | immNil A cap hm => exact .immNil A cap hm
  | fn f => exact .fn f
  | @clo f is cs hl hn hp =>
    by_cases hg : ∃ i, some i ∈ is ∧ E'.ρ[i]? = some .gone
    · obtain ⟨i, hi, hg⟩ := hg
      exact .cloGone hi hg rfl
    · refine .clo hl hn fun j i hj => ?_
      obtain ⟨b, hb, hc⟩ := hp j i hj
      rcases h.mono _ _ hb with h1 | h1
      · exact ⟨b, h1, hc⟩
      · exact absurd ⟨i, List.mem_of_getElem? hj, h1⟩ hg
  | cloGone hi hg hv => rcases h.mono _ _ hg with h1 | h1 <;> exact .cloGone hi h1 hv
  | nilfn => exact .nilfn
  | mp hi => rcases h.mono _ _ hi with h1 | h1; exact .mp h1; exact .mpGone h1 rfl
  | mpGone hi hv => rcases h.mono _ _ hi with h1 | h1 <;> exact .mpGone h1 hv
  | nilmap => exact .nilmap

theorem VR2.mono (h : Ext E w E' w') {u : AV K El} {v : Value} (hv : VR2 S E w u v) : VR2 S E' w' u v := by
  cases u
  case agg us =>
    obtain ⟨cs, rfl, hl, hc⟩ := hv
    exact ⟨cs, rfl, hl, fun j u hu => let ⟨c, h1, h2, h3⟩ := hc j u hu; ⟨c, h1, h2, VR.mono ok h h3⟩⟩
  all_goals exact VR.mono ok h hv

theorem VRv.mono (h : Ext E w E' w') {u : AV K El} {v : Value} (hv : VRv S E w u v) : VRv S E' w' u v := by
  cases u
  case tup us =>
    obtain ⟨cs, rfl, hl, hc⟩ := hv
    exact ⟨cs, rfl, hl, fun j u hu => let ⟨c, h1, h2⟩ := hc j u hu; ⟨c, h1, VR2.mono ok h h2⟩⟩
  case agg us => exact VR2.mono ok h (u := .agg us) hv
  all_goals exact VR.mono ok h hv

end
end Sh
end Go.Proofs.YtomdfaelgcefdaaGreatDoor
