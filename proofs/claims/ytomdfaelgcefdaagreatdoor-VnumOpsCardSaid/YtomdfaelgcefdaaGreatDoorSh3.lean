/- The shadow machine, part 3: heaps seen by a callee, and numbered anew. -/
import Derived.Test.YtomdfaelgcefdaaGreatDoorSh2
namespace Go.Proofs.YtomdfaelgcefdaaGreatDoor
open Go
namespace Sh
variable {K : Type} {El : K → Type} {S : Seat K El}

theorem mem_of_getElem? {α : Type} {l : List α} {i : Nat} {x : α} (h : l[i]? = some x) : x ∈ l := List.mem_of_getElem? h

theorem VR.of_free (ok : Ok S) {E E' : Env} {w : World} (hst : ∀ b, Stable E b → Stable E' b) {u : AV K El} {v : Value} (h : VR S E w u v) (hu : u.free = true) : VR S E' w u v := by
  induction h with
  | junk v => exact .junk v
  | cell v hv => exact .cell v hv
  | bool b => exact .bool b
  | int k n => exact .int k n
  | str s => exact .str s
  | nilp => exact .nilp
  | iptr b o cs hs hc hv ih => exact .iptr b o cs (fun h => hst _ (hs h)) hc fun j x t u hx hu => ih j x t u hx hu (ok.free _ _ _ (mem_of_getElem? hu))
  | nils => exact .nils
  | imm b o cap cs hs hle hm hc hv ih => exact .imm b o cap cs (fun h => hst _ (hs h)) hle hm hc fun j x t u hx hu => ih j x t u hx hu (ok.free _ _ _ (mem_of_getElem? hu))
  | immNil A cap hm => exact .immNil A cap hm
  | fn f => exact .fn f
  | nilfn => exact .nilfn
  | nilmap => exact .nilmap
  | ptr _ | ptrGone _ _ | eptr _ | eptrGone _ _ | own _ _ _ _ _ _ | ownNil _ | ownGone _ _ | clo _ _ _ | cloGone _ _ _ | mp _ | mpGone _ _ => simp [AV.free] at hu

/-- What is wanted of the numbers `ids` and of what is lent. -/
structure Sub (S : Seat K El) (E : Env) (H : Heap K El) (w : World) (ids lent : List Nat) (E' : Env) : Prop where
  emb : Emb S E H w
  nodup : ids.Nodup
  lt : ∀ i ∈ ids, i < H.length
  ρ : E'.ρ = ids.map fun i => E.ρ.getD i .gone
  st : ∀ b, Stable E b → Stable E' b
  lent : ∀ i b, i ∈ lent → i ∉ ids → E.ρ[i]? = some (.blk b) → Stable E' b
  F : ∀ b, E'.F b → b < w.heap.size ∧ ∀ i : Nat, E'.ρ[i]? ≠ some (.blk b)

theorem idxOf?_some {ids : List Nat} {i j : Nat} (h : ids.idxOf? i = some j) : ids[j]? = some i := by
  induction ids generalizing j with
  | nil => simp at h
  | cons a l ih =>
    rw [List.idxOf?_cons] at h
    by_cases ha : a = i
    · simp [ha] at h; subst h; simp [ha]
    · have hb : (a == i) = false := by simpa using ha
      simp only [hb, Bool.false_eq_true, if_false] at h
      cases hq : l.idxOf? i with
      | none => simp [hq] at h
      | some q => simp [hq] at h; subst h; simpa using ih hq

theorem idxOf?_none {ids : List Nat} {i : Nat} (h : ids.idxOf? i = none) : i ∉ ids := by
  intro hm
  induction ids with
  | nil => simp at hm
  | cons a l ih =>
    rw [List.idxOf?_cons] at h
    by_cases ha : a = i
    · simp [ha] at h
    · have hb : (a == i) = false := by simpa using ha
      simp only [hb, Bool.false_eq_true, if_false, Option.map_eq_none_iff] at h
      rcases List.mem_cons.1 hm with he | hm
      · exact ha he.symm
      · exact ih h hm

section
variable {E E' : Env} {H : Heap K El} {w : World} {ids lent : List Nat}

theorem Sub.at_ (h : Sub S E H w ids lent E') {i j : Nat} {l : Loc} (hj : ids[j]? = some i) (hl : E.ρ[i]? = some l) : E'.ρ[j]? = some l := by
  rw [h.ρ, List.getElem?_map, hj]
  simp [List.getD, hl]

theorem locIs_some {ids : List Nat} : ∀ {is js : List (Option Nat)}, locIs ids is = some js → js.length = is.length ∧ (∀ j : Nat, js[j]? = some none → is[j]? = some none) ∧
    ∀ j q : Nat, js[j]? = some (some q) → ∃ i, is[j]? = some (some i) ∧ ids.idxOf? i = some q
  | [], js, h => by simp only [locIs, Option.some.injEq] at h; subst h; exact ⟨rfl, fun j h => by simp at h, fun j q h => by simp at h⟩
  | none :: r, js, h => by
    simp only [locIs] at h
    split at h
    · rename_i js' hj
      simp only [Option.some.injEq] at h
      subst h
      obtain ⟨h1, h2, h3⟩ := locIs_some hj
      refine ⟨by simp [h1], fun j hq => ?_, fun j q hq => ?_⟩
      · cases j with
        | zero => rfl
        | succ j => exact h2 j (by simpa using hq)
      · cases j with
        | zero => simp at hq
        | succ j => exact h3 j q (by simpa using hq)
    · cases h
  | some i :: r, js, h => by
    simp only [locIs] at h
    split at h
    · rename_i q0 js' hi hj
      simp only [Option.some.injEq] at h
      subst h
      obtain ⟨h1, h2, h3⟩ := locIs_some hj
      refine ⟨by simp [h1], fun j hq => ?_, fun j q hq => ?_⟩
      · cases j with
        | zero => simp at hq
        | succ j => exact h2 j (by simpa using hq)
      · cases j with
        | zero => simp at hq; subst hq; exact ⟨i, rfl, hi⟩
        | succ j => exact h3 j q (by simpa using hq)
    · cases h

theorem locIs_mem {ids : List Nat} : ∀ {is js : List (Option Nat)}, locIs ids is = some js → ∀ {i : Nat}, some i ∈ is → ∃ q, some q ∈ js ∧ ids.idxOf? i = some q
  | [], js, h, i, hi => by simp at hi
  | none :: r, js, h, i, hi => by
    simp only [locIs] at h
    split at h
    · rename_i js' hj
      simp only [Option.some.injEq] at h
      subst h
      obtain ⟨q, h1, h2⟩ := locIs_mem hj (i := i) (by simpa using hi)
      exact ⟨q, List.mem_cons_of_mem _ h1, h2⟩
    · cases h
  | some i0 :: r, js, h, i, hi => by
    simp only [locIs] at h
    split at h
    · rename_i q0 js' hi0 hj
      simp only [Option.some.injEq] at h
      subst h
      rcases List.mem_cons.1 hi with he | hi
      · simp only [Option.some.injEq] at he
        subst he
        exact ⟨q0, by simp, hi0⟩
      · obtain ⟨q, h1, h2⟩ := locIs_mem hj hi
        exact ⟨q, List.mem_cons_of_mem _ h1, h2⟩
    · cases h

theorem loc1_VR (ok : Ok S) (h : Sub S E H w ids lent E') {u : AV K El} {v : Value} (hu : ok1 H ids lent u) (hv : VR S E w u v) : VR S E' w (loc1 H ids lent u) v := by
  cases hv with
  | junk v => exact .junk v
  | cell v hv => exact .cell v hv
  | bool b => exact .bool b
  | int k n => exact .int k n
  | str s => exact .str s
  | nilp => exact .nilp
  | nils => exact .nils
  | fn f => exact .fn f
  | nilfn => exact .nilfn
  | nilmap => exact .nilmap
  | clo hl hn hp =>
    simp only [loc1]
    split
    · rename_i js hj
      obtain ⟨h1, h2, h3⟩ := locIs_some hj
      refine .clo (by omega) (fun j hq => hn j (h2 j hq)) fun j q hq => ?_
      obtain ⟨i, hi, hx⟩ := h3 j q hq
      obtain ⟨b, hb, hc⟩ := hp j i hi
      exact ⟨b, h.at_ (idxOf?_some hx) hb, hc⟩
    · exact .cell _ rfl
  | cloGone hi hg hv =>
    simp only [loc1]
    split
    · rename_i js hj
      obtain ⟨q, hq, hx⟩ := locIs_mem hj hi
      exact .cloGone hq (h.at_ (idxOf?_some hx) hg) hv
    · exact .cell _ hv
  | mp hi =>
    simp only [loc1]
    split
    · rename_i j hj; exact .mp (h.at_ (idxOf?_some hj) hi)
    · exact .cell _ rfl
  | mpGone hi hv =>
    simp only [loc1]
    split
    · rename_i j hj; exact .mpGone (h.at_ (idxOf?_some hj) hi) hv
    · exact .cell _ hv
  | immNil A cap hm => exact .immNil A cap hm
  | iptr b o cs hs hc hv => exact VR.of_free ok h.st (.iptr b o cs hs hc hv) rfl
  | imm b o cap cs hs hle hm hc hv => exact VR.of_free ok h.st (.imm b o cap cs hs hle hm hc hv) rfl
  | ptr hi =>
    simp only [loc1]
    split
    · rename_i j hj; exact .ptr (h.at_ (idxOf?_some hj) hi)
    · exact .cell _ rfl
  | ptrGone hi hv =>
    simp only [loc1]
    split
    · rename_i j hj; exact .ptrGone (h.at_ (idxOf?_some hj) hi) hv
    · exact .cell _ hv
  | @eptr k i e off b hi =>
    simp only [loc1]
    split
    · rename_i j hj; exact .eptr (h.at_ (idxOf?_some hj) hi)
    · rename_i hj
      split
      · rename_i hl
        split
        · rename_i kr xs hx
          simp only [ok1, hj, hl, hx, if_true] at hu
          subst hu
          obtain ⟨c, hc, hsz, hcs⟩ : OR S E w (.row kr xs) (.blk b) := h.emb.obj i _ _ hx hi
          have hst := h.lent i b (by simpa using hl) (idxOf?_none hj) hi
          have hz : e * S.size kr + off = 0 + (e * S.size kr + off) := by omega
          rw [hz]
          refine .iptr b 0 (fun n => c.getD n undef) (fun _ => hst) (fun n hn => ?_) (fun j x t u hx hu => ?_)
          · have hlt : n < c.size := by omega
            simp [World.cell?, hc, Array.getD, hlt]
          · obtain ⟨v, h1, h2⟩ := hcs j x hx t u hu
            have : c.getD (j * S.size kr + t) undef = v := by rw [Array.getD_eq_getD_getElem?, h1]; rfl
            rw [this]
            exact VR.of_free ok h.st h2 (ok.free _ _ _ (mem_of_getElem? hu))
        · exact .cell _ rfl
      · exact .cell _ rfl
  | eptrGone hi hv =>
    rename_i k i e off
    simp only [loc1]
    split
    · rename_i j hj; exact .eptrGone (h.at_ (idxOf?_some hj) hi) hv
    · split
      · split
        · rename_i kr xs hx
          exact ((h.emb.obj i _ _ hx hi : OR S E w (.row kr xs) .gone)).elim
        · exact .cell _ hv
      · exact .cell _ hv
  | @own k i lo len c b o cap hi hf hw hle hm ho =>
    simp only [loc1]
    split
    · rename_i j hj; exact .own (h.at_ (idxOf?_some hj) hi) hf hw hle hm ho
    · rename_i hj
      split
      · rename_i hl
        split
        · rename_i kr xs hx
          simp only [ok1, hj, hl, hx, if_true] at hu
          obtain ⟨rfl, hlen⟩ := hu
          obtain ⟨cc, hc, hsz, hcs⟩ : OR S E w (.row kr xs) (.blk b) := h.emb.obj i _ _ hx hi
          have hst := h.lent i b (by simpa using hl) (idxOf?_none hj) hi
          have hll : ((xs.drop lo).take len).length = len := by simp; omega
          have hgo : VR S E' w (.imm kr ((xs.drop lo).take len)) (.slice (some ⟨b, o, none⟩) ((xs.drop lo).take len).length cap) := by
            refine .imm b o cap (fun n => cc.getD (o + n) undef) (fun _ => hst) (by omega) hm (fun n hn => ?_) (fun j x t u hx hu => ?_)
            · rw [hll] at hn
              have ho' : o = lo * S.size kr := by
                rcases ho with ho | ⟨_, h0, _⟩
                · exact ho
                · rw [h0] at hn; simp at hn
              have hmul : lo * S.size kr + len * S.size kr ≤ xs.length * S.size kr := by rw [← Nat.add_mul]; exact Nat.mul_le_mul_right _ hlen
              have hlt : o + n < cc.size := by omega
              simp [World.cell?, hc, Array.getD, hlt]
            · have hjl : j < len := by
                have := (List.getElem?_eq_some_iff.1 hx).1
                omega
              have hx' : xs[lo + j]? = some x := by
                rw [List.getElem?_take] at hx
                simp only [hjl, if_true, List.getElem?_drop] at hx
                exact hx
              have ho' : o = lo * S.size kr := by
                rcases ho with ho | ⟨_, h0, _⟩
                · exact ho
                · omega
              obtain ⟨v, h1, h2⟩ := hcs (lo + j) x hx' t u hu
              have he : o + (j * S.size kr + t) = (lo + j) * S.size kr + t := by rw [ho', Nat.add_mul]; omega
              have : cc.getD (o + (j * S.size kr + t)) undef = v := by rw [he, Array.getD_eq_getD_getElem?, h1]; rfl
              rw [this]
              exact VR.of_free ok h.st h2 (ok.free _ _ _ (mem_of_getElem? hu))
          rw [hll] at hgo
          exact hgo
        · exact .cell _ rfl
      · exact .cell _ rfl
  | ownNil hi =>
    rename_i k i c
    simp only [loc1]
    split
    · rename_i j hj; exact .ownNil (h.at_ (idxOf?_some hj) hi)
    · split
      · split
        · rename_i kr xs hx
          have : xs = [] := h.emb.obj i _ _ hx hi
          subst this
          exact .immNil none 0 (Nat.zero_le _)
        · exact .cell _ rfl
      · exact .cell _ rfl
  | ownGone hi hv =>
    rename_i k i lo len c
    simp only [loc1]
    split
    · rename_i j hj; exact .ownGone (h.at_ (idxOf?_some hj) hi) hv
    · split
      · split
        · rename_i kr xs hx
          exact ((h.emb.obj i _ _ hx hi : OR S E w (.row kr xs) .gone)).elim
        · exact .cell _ hv
      · exact .cell _ hv

theorem loc1_one {u : AV K El} (h : u.one = true) : (loc1 H ids lent u).one = true := by
  cases u <;> simp only [loc1] <;> first | exact h | (repeat' split) <;> rfl

theorem okL_at {us : List (AV K El)} (h : okL H ids lent us) {j : Nat} {u : AV K El} (hu : us[j]? = some u) : ok1 H ids lent u := by
  induction us generalizing j with
  | nil => simp at hu
  | cons a l ih =>
    cases j with
    | zero => simp at hu; subst hu; exact h.1
    | succ j => exact ih h.2 (by simpa using hu)

theorem okT_at {us : List (AV K El)} (h : okT H ids lent us) {j : Nat} {u : AV K El} (hu : us[j]? = some u) : ok2 H ids lent u := by
  induction us generalizing j with
  | nil => simp at hu
  | cons a l ih =>
    cases j with
    | zero => simp at hu; subst hu; exact h.1
    | succ j => exact ih h.2 (by simpa using hu)

def AV.plain : AV K El → Bool
  | .agg _ | .tup _ => false
  | _ => true

theorem VR2_plain {u : AV K El} (hu : u.plain = true) {v : Value} : VR2 S E w u v = VR S E w u v := by
  cases u <;> first | rfl | simp [AV.plain] at hu
theorem VRv_plain {u : AV K El} (hu : u.plain = true) {v : Value} : VRv S E w u v = VR S E w u v := by
  cases u <;> first | rfl | simp [AV.plain] at hu
theorem ok2_plain {u : AV K El} (hu : u.plain = true) : ok2 H ids lent u = ok1 H ids lent u := by
  cases u <;> first | rfl | simp [AV.plain] at hu
theorem loc2_plain {u : AV K El} (hu : u.plain = true) : loc2 H ids lent u = loc1 H ids lent u := by
  cases u <;> first | rfl | simp [AV.plain] at hu
theorem loc1_plain {u : AV K El} (hu : u.plain = true) : (loc1 H ids lent u).plain = true := by
  cases u <;> simp only [loc1] <;> first | exact hu | (repeat' split) <;> rfl

theorem loc2_VR (ok : Ok S) (h : Sub S E H w ids lent E') {u : AV K El} {v : Value} (hu : ok2 H ids lent u) (hv : VR2 S E w u v) : VR2 S E' w (loc2 H ids lent u) v := by
  cases hp : u.plain with
  | true =>
    rw [VR2_plain hp] at hv
    rw [ok2_plain hp] at hu
    rw [loc2_plain hp, VR2_plain (loc1_plain hp)]
    exact loc1_VR ok h hu hv
  | false =>
    cases u <;> simp [AV.plain] at hp
    case agg cs =>
      obtain ⟨a, rfl, hl, hc⟩ := hv
      refine ⟨a, rfl, by simpa using hl, fun j u hj => ?_⟩
      rw [List.getElem?_map] at hj
      cases hq : cs[j]? with
      | none => rw [hq] at hj; simp at hj
      | some x =>
        rw [hq] at hj; simp at hj; subst hj
        obtain ⟨c, h1, h2, h3⟩ := hc j x hq
        exact ⟨c, h1, loc1_one h2, loc1_VR ok h (okL_at hu hq) h3⟩
    case tup cs => exact (show VR S E' w (.tup cs) v from by cases (show VR S E w (.tup cs) v from hv))

theorem loc_VR (ok : Ok S) (h : Sub S E H w ids lent E') {u : AV K El} {v : Value} (hu : okV H ids lent u) (hv : VRv S E w u v) : VRv S E' w (loc H ids lent u) v := by
  cases hp : u.plain with
  | true =>
    have h1 : okV H ids lent u = ok1 H ids lent u := by cases u <;> first | rfl | simp [AV.plain] at hp
    have h2 : loc H ids lent u = loc1 H ids lent u := by cases u <;> first | rfl | simp [AV.plain] at hp
    rw [VRv_plain hp] at hv
    rw [h1] at hu
    rw [h2, VRv_plain (loc1_plain hp)]
    exact loc1_VR ok h hu hv
  | false =>
    cases u <;> simp [AV.plain] at hp
    case agg cs => exact loc2_VR ok h (u := .agg cs) hu hv
    case tup cs =>
      obtain ⟨a, rfl, hl, hc⟩ := hv
      refine ⟨a, rfl, by simpa using hl, fun j u hj => ?_⟩
      rw [List.getElem?_map] at hj
      cases hq : cs[j]? with
      | none => rw [hq] at hj; simp at hj
      | some x =>
        rw [hq] at hj; simp at hj; subst hj
        obtain ⟨c, h1, h2⟩ := hc j x hq
        exact ⟨c, h1, loc2_VR ok h (okT_at hu hq) h2⟩

theorem okH_at {l : List Nat} (h : okH H ids lent l) {j i : Nat} (hj : l[j]? = some i) : okO H ids lent (H.getD i .gone) := by
  induction l generalizing j with
  | nil => simp at hj
  | cons a l ih =>
    cases j with
    | zero => simp at hj; subst hj; exact h.1
    | succ j => exact ih h.2 (by simpa using hj)

theorem loc_OR (ok : Ok S) (h : Sub S E H w ids lent E') {o : AO K El} {l : Loc} (hu : okO H ids lent o) (hv : OR S E w o l) : OR S E' w (locO H ids lent o) l := by
  cases o with
  | gone => trivial
  | cells vs =>
    cases l with
    | gone => exact hv
    | nil => exact hv
    | blk b =>
      obtain ⟨c, e, h1, h2, h3⟩ := hv
      refine ⟨c, e, h1, by simpa using h2, fun j u hj => ?_⟩
      rw [List.getElem?_map] at hj
      cases hq : vs[j]? with
      | none => rw [hq] at hj; simp at hj
      | some x =>
        rw [hq] at hj; simp at hj; subst hj
        obtain ⟨v, k1, k2, k3⟩ := h3 j x hq
        exact ⟨v, k1, loc1_one k2, loc1_VR ok h (okL_at hu hq) k3⟩
  | row k xs =>
    cases l with
    | gone => exact hv
    | nil => exact hv
    | blk b =>
      obtain ⟨c, h1, h2, h3⟩ := hv
      exact ⟨c, h1, h2, fun j x hx t u hu => let ⟨v, k1, k2⟩ := h3 j x hx t u hu; ⟨v, k1, VR.of_free ok h.st k2 (ok.free _ _ _ (mem_of_getElem? hu))⟩⟩
  | siter s p => cases l <;> exact hv
  | map es =>
    cases l with
    | gone => exact hv
    | nil => exact hv
    | blk b =>
      obtain ⟨es', ck, h1, h2, h3⟩ := hv
      exact ⟨es', ck, h1, h2, fun j e hj => let ⟨e', k1, k2, k3, k4, k5⟩ := h3 j e hj; ⟨e', k1, k2, k3, k4.of_data k2, k5.of_data k3⟩⟩
  | miter i =>
    cases l with
    | gone => exact (show False from hv).elim
    | nil => exact (show False from hv).elim
    | blk b =>
      obtain ⟨m, since, ck, h1, h2⟩ := hv
      simp only [locO]
      split
      · rename_i j hj
        exact ⟨m, since, ck, h1, h2.imp (h.at_ (idxOf?_some hj)) (h.at_ (idxOf?_some hj))⟩
      · trivial
  | rowx k xs e vs =>
    cases l with
    | gone => exact hv
    | nil => exact hv
    | blk b =>
      obtain ⟨c, h1, h2, h3, h4, h5, h6⟩ := hv
      refine ⟨c, h1, h2, h3, by simpa using h4, fun j x hj hx t u hu => let ⟨v, k1, k2⟩ := h5 j x hj hx t u hu; ⟨v, k1, VR.of_free ok h.st k2 (ok.free _ _ _ (mem_of_getElem? hu))⟩, fun t u hj => ?_⟩
      rw [List.getElem?_map] at hj
      cases hq : vs[t]? with
      | none => rw [hq] at hj; simp at hj
      | some x =>
        rw [hq] at hj; simp at hj; subst hj
        obtain ⟨v, k1, k2, k3⟩ := h6 t x hq
        exact ⟨v, k1, loc1_one k2, loc1_VR ok h (okL_at hu hq) k3⟩

theorem nodup_at {l : List Nat} (h : l.Nodup) {i j x : Nat} (hi : l[i]? = some x) (hj : l[j]? = some x) : i = j := by
  exact (List.getElem?_inj (List.getElem?_eq_some_iff.1 hi).1 h).1 (hi.trans hj.symm)

theorem Sub.back (h : Sub S E H w ids lent E') {j : Nat} {l : Loc} (hl : E'.ρ[j]? = some l) : ∃ i, ids[j]? = some i ∧ E.ρ[i]? = some l := by
  rw [h.ρ, List.getElem?_map] at hl
  cases hq : ids[j]? with
  | none => rw [hq] at hl; simp at hl
  | some i =>
    rw [hq] at hl; simp at hl
    have hlt : i < E.ρ.length := by rw [h.emb.len]; exact h.lt i (mem_of_getElem? hq)
    refine ⟨i, rfl, ?_⟩
    rw [List.getElem?_eq_getElem hlt]
    simpa [List.getD, List.getElem?_eq_getElem hlt] using hl

theorem loc_Emb (ok : Ok S) (h : Sub S E H w ids lent E') (hu : okH H ids lent ids) : Emb S E' (locH H ids lent) w where
  len := by rw [h.ρ]; simp [locH]
  obj j o l ho hl := by
    obtain ⟨i, hi, hl'⟩ := h.back hl
    have hlt := h.lt i (mem_of_getElem? hi)
    rw [locH, List.getElem?_map, hi] at ho
    simp at ho
    subst ho
    have hg : H.getD i .gone = H[i] := by simp [List.getD, hlt]
    have ho := okH_at hu hi
    rw [← List.getD_eq_getElem?_getD]
    exact loc_OR ok h ho (h.emb.obj i _ l (by rw [hg]; exact List.getElem?_eq_getElem hlt) hl')
  inj i j b hi hj := by
    obtain ⟨a, ha, hal⟩ := h.back hi
    obtain ⟨c, hc, hcl⟩ := h.back hj
    have := h.emb.inj a c b hal hcl
    subst this
    exact nodup_at h.nodup ha hc
  lt i b hi := by
    obtain ⟨a, _, hal⟩ := h.back hi
    exact h.emb.lt a b hal
  F := h.F
  gl := ⟨h.emb.gl.inv, h.emb.gl.lt, fun b hb => h.st b (h.emb.gl.st b hb)⟩

end
end Sh
end Go.Proofs.YtomdfaelgcefdaaGreatDoor
