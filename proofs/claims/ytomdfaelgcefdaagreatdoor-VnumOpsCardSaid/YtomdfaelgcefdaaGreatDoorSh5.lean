/- The shadow machine, part 5: memory: what is read, written and made. -/
import Derived.Test.YtomdfaelgcefdaaGreatDoorSh4
import Derived.Laws.AppendOwnNone
namespace Go.Proofs.YtomdfaelgcefdaaGreatDoor
open Go
namespace Sh
variable {K : Type} {El : K → Type} {S : Seat K El}

theorem add_lit (b o n : Nat) : (⟨b, o, none⟩ : Addr).add n = ⟨b, o + n, none⟩ := by unfold Addr.add; split <;> simp_all

theorem VR.one_of {E : Env} {w : World} {u : AV K El} {v : Value} (h : VR S E w u v) (hu : u.one = true) : VR2 S E w u v := by
  cases u <;> first | exact h | simp [AV.one] at hu

section
variable (ok : Ok S) {E : Env} {H : Heap K El} {w w1 : World}

theorem shape_push {o : Obj} (hh : w1.heap = w.heap.push o) {b : Nat} {s : TypeId × Nat} (h : w.shape? b = some s) : w1.shape? b = some s := by
  have hb : b < w.heap.size := by
    rcases Nat.lt_or_ge b w.heap.size with hlt | hge
    · exact hlt
    · simp [World.shape?, Array.getElem?_eq_none hge] at h
  have he : w1.heap[b]? = w.heap[b]? := by rw [hh, Array.getElem?_push]; simp [Nat.ne_of_lt hb]
  simp only [World.shape?] at h ⊢
  rw [he]
  exact h

theorem heap_push_old {o : Obj} (hh : w1.heap = w.heap.push o) {b : Nat} (hb : b < w.heap.size) : w1.heap[b]? = w.heap[b]? := by
  rw [hh, Array.getElem?_push]; simp [Nat.ne_of_lt hb]

theorem ext_push {o : Obj} (hh : w1.heap = w.heap.push o) (ht : w1.tape = w.tape) (hos : w1.os = w.os) (hout : w1.output = w.output) : Ext E w ⟨E.ρ ++ [.blk w.heap.size], E.F⟩ w1 where
  size := by rw [hh]; simp
  keep b hb _ := heap_push_old hh hb
  shape b s h := shape_push hh h
  mono i l hl := .inl (by simp only []; rw [List.getElem?_append_left (List.getElem?_eq_some_iff.1 hl).1]; exact hl)
  fresh i b hi := by
    simp only [] at hi
    rcases Nat.lt_or_ge i E.ρ.length with hlt | hge
    · rw [List.getElem?_append_left hlt] at hi; exact .inl ⟨i, hi⟩
    · rw [List.getElem?_append_right hge] at hi
      cases hq : i - E.ρ.length with
      | zero => rw [hq] at hi; simp at hi; exact .inr (by omega)
      | succ n => rw [hq] at hi; simp at hi
  F := rfl
  os := hos
  tape := ht
  output := hout

include ok in
theorem emb_pushO (h : Emb S E H w) {ob : Obj} (hh : w1.heap = w.heap.push ob) (ht : w1.tape = w.tape) (hos : w1.os = w.os) (hout : w1.output = w.output)
    {o : AO K El} (ho : OR S ⟨E.ρ ++ [.blk w.heap.size], E.F⟩ w1 o (.blk w.heap.size)) : Emb S ⟨E.ρ ++ [.blk w.heap.size], E.F⟩ (H ++ [o]) w1 := by
  have hx : Ext E w ⟨E.ρ ++ [.blk w.heap.size], E.F⟩ w1 := ext_push hh ht hos hout
  have split : ∀ (i : Nat) (l : Loc), (E.ρ ++ [.blk w.heap.size])[i]? = some l → (E.ρ[i]? = some l ∧ i < E.ρ.length) ∨ (i = E.ρ.length ∧ l = .blk w.heap.size) := by
    intro i l hi
    rcases Nat.lt_or_ge i E.ρ.length with hlt | hge
    · rw [List.getElem?_append_left hlt] at hi; exact .inl ⟨hi, hlt⟩
    · rw [List.getElem?_append_right hge] at hi
      cases hq : i - E.ρ.length with
      | zero => rw [hq] at hi; simp at hi; exact .inr ⟨by omega, hi.symm⟩
      | succ n => rw [hq] at hi; simp at hi
  refine ⟨by simp [h.len], fun i o' l ho' hi => ?_, fun i j b hi hj => ?_, fun i b hi => ?_, fun b hF => ⟨by have := (h.F b hF).1; rw [hh]; simp; omega, fun i hi => ?_⟩, h.gl.ext ok hx⟩
  · rcases split i l hi with ⟨h1, h2⟩ | ⟨rfl, rfl⟩
    · rw [List.getElem?_append_left (by rw [← h.len]; exact h2)] at ho'
      exact OR.mono ok hx (fun b hb => by subst hb; exact heap_push_old hh (h.lt i b h1)) (h.obj i o' l ho' h1)
    · rw [h.len, List.getElem?_append_right (Nat.le_refl _)] at ho'
      simp at ho'
      subst ho'
      exact ho
  · rcases split i _ hi with ⟨h1, h2⟩ | ⟨rfl, h2⟩ <;> rcases split j _ hj with ⟨k1, k2⟩ | ⟨rfl, k2⟩
    · exact h.inj i j b h1 k1
    · have := h.lt i b h1; simp only [Loc.blk.injEq] at k2; omega
    · have := h.lt j b k1; simp only [Loc.blk.injEq] at h2; omega
    · rfl
  · rcases split i _ hi with ⟨h1, h2⟩ | ⟨rfl, h2⟩
    · have := h.lt i b h1; rw [hh]; simp; omega
    · simp only [Loc.blk.injEq] at h2; subst h2; rw [hh]; simp
  · rcases split i _ hi with ⟨h1, h2⟩ | ⟨rfl, h2⟩
    · exact (h.F b hF).2 i h1
    · have := (h.F b hF).1; simp only [Loc.blk.injEq] at h2; omega

include ok in
theorem emb_push (h : Emb S E H w) {c : Array Value} {e : TypeId} (hh : w1.heap = w.heap.push (.cells c e)) (ht : w1.tape = w.tape) (hos : w1.os = w.os) (hout : w1.output = w.output)
    {o : AO K El} (ho : OR S ⟨E.ρ ++ [.blk w.heap.size], E.F⟩ w1 o (.blk w.heap.size)) : Emb S ⟨E.ρ ++ [.blk w.heap.size], E.F⟩ (H ++ [o]) w1 := emb_pushO ok h hh ht hos hout ho

/-- An iterator goes on. -/
theorem ext_setIter {i b : Nat} {s : ByteArray} {p q : Nat} (hi : E.ρ[i]? = some (.blk b)) (hb : w.heap[b]? = some (.stringIter s p)) : Ext E w E { w with heap := w.heap.setIfInBounds b (.stringIter s q) } where
  size := by simp
  keep b' _ hn := by
    have : b ≠ b' := fun e => hn i (e ▸ hi)
    simp only []
    rw [Array.getElem?_setIfInBounds_ne this]
  shape b' s' h := by
    have : b ≠ b' := by
      rintro rfl
      simp [World.shape?, hb] at h
    simp only [World.shape?] at h ⊢
    rw [Array.getElem?_setIfInBounds_ne this]
    exact h
  mono _ _ h := .inl h
  fresh j b' h := .inl ⟨j, h⟩
  F := rfl
  os := rfl
  tape := rfl
  output := rfl

include ok in
theorem emb_setIter (h : Emb S E H w) {i b : Nat} {s : ByteArray} {p q : Nat} (hi : E.ρ[i]? = some (.blk b)) (hb : w.heap[b]? = some (.stringIter s p)) :
    Emb S E (H.set i (.siter s q)) { w with heap := w.heap.setIfInBounds b (.stringIter s q) } where
  len := by simp [h.len]
  obj j o' l ho' hl := by
    by_cases hj : j = i
    · subst hj
      rw [List.getElem?_set_self (by have := (List.getElem?_eq_some_iff.1 ho').1; simpa using this)] at ho'
      simp only [Option.some.injEq] at ho'
      subst ho'
      rw [hi] at hl
      simp only [Option.some.injEq] at hl
      subst hl
      have hlt : b < w.heap.size := (Array.getElem?_eq_some_iff.1 hb).1
      show (w.heap.setIfInBounds b (.stringIter s q))[b]? = _
      simp [hlt]
    · rw [List.getElem?_set_ne (fun e => hj e.symm)] at ho'
      refine OR.mono ok (ext_setIter hi hb) (fun b' hb' => ?_) (h.obj j o' l ho' hl)
      subst hb'
      have : b ≠ b' := fun e => hj (h.inj j i b (e ▸ hl) hi)
      simp only []
      rw [Array.getElem?_setIfInBounds_ne this]
  inj := h.inj
  lt j b' hj := by simpa using h.lt j b' hj
  F b' hF := by simpa using h.F b' hF
  gl := h.gl.ext ok (ext_setIter hi hb)

theorem ext_nil (hh : w1.heap = w.heap) (ht : w1.tape = w.tape) (hos : w1.os = w.os) (hout : w1.output = w.output) : Ext E w ⟨E.ρ ++ [.nil], E.F⟩ w1 where
  size := by rw [hh]; exact Nat.le_refl _
  keep b _ _ := by rw [hh]
  shape b s h := by simp only [World.shape?] at h ⊢; rw [hh]; exact h
  mono i l hl := .inl (by simp only []; rw [List.getElem?_append_left (List.getElem?_eq_some_iff.1 hl).1]; exact hl)
  fresh i b hi := by
    simp only [] at hi
    rcases Nat.lt_or_ge i E.ρ.length with hlt | hge
    · rw [List.getElem?_append_left hlt] at hi; exact .inl ⟨i, hi⟩
    · rw [List.getElem?_append_right hge] at hi
      cases hq : i - E.ρ.length with
      | zero => rw [hq] at hi; simp at hi
      | succ n => rw [hq] at hi; simp at hi
  F := rfl
  os := hos
  tape := ht
  output := hout

include ok in
theorem emb_nil (h : Emb S E H w) (k : K) : Emb S ⟨E.ρ ++ [.nil], E.F⟩ (H ++ [.row k []]) w := by
  have hx : Ext E w ⟨E.ρ ++ [.nil], E.F⟩ w := ext_nil rfl rfl rfl rfl
  have split : ∀ (i : Nat) (l : Loc), (E.ρ ++ [.nil])[i]? = some l → (E.ρ[i]? = some l ∧ i < E.ρ.length) ∨ (i = E.ρ.length ∧ l = .nil) := by
    intro i l hi
    rcases Nat.lt_or_ge i E.ρ.length with hlt | hge
    · rw [List.getElem?_append_left hlt] at hi; exact .inl ⟨hi, hlt⟩
    · rw [List.getElem?_append_right hge] at hi
      cases hq : i - E.ρ.length with
      | zero => rw [hq] at hi; simp at hi; exact .inr ⟨by omega, hi.symm⟩
      | succ n => rw [hq] at hi; simp at hi
  refine ⟨by simp [h.len], fun i o' l ho' hi => ?_, fun i j b hi hj => ?_, fun i b hi => ?_, fun b hF => ⟨(h.F b hF).1, fun i hi => ?_⟩, h.gl.ext ok hx⟩
  · rcases split i l hi with ⟨h1, h2⟩ | ⟨rfl, rfl⟩
    · rw [List.getElem?_append_left (by rw [← h.len]; exact h2)] at ho'
      exact OR.mono ok hx (fun b _ => rfl) (h.obj i o' l ho' h1)
    · rw [h.len, List.getElem?_append_right (Nat.le_refl _)] at ho'
      simp at ho'
      subst ho'
      rfl
  · rcases split i _ hi with ⟨h1, h2⟩ | ⟨rfl, h2⟩ <;> rcases split j _ hj with ⟨k1, k2⟩ | ⟨rfl, k2⟩
    · exact h.inj i j b h1 k1
    · cases k2
    · cases h2
    · rfl
  · rcases split i _ hi with ⟨h1, _⟩ | ⟨_, h2⟩
    · exact h.lt i b h1
    · cases h2
  · rcases split i _ hi with ⟨h1, _⟩ | ⟨_, h2⟩
    · exact (h.F b hF).2 i h1
    · cases h2

/-- A place becomes nobody's. -/
def Env.drop (E : Env) (i : Nat) : Env := ⟨E.ρ.set i .gone, E.F⟩

theorem drop_at {i j : Nat} {l : Loc} (h : (E.drop i).ρ[j]? = some l) : (j ≠ i ∧ E.ρ[j]? = some l) ∨ (j = i ∧ l = .gone) := by
  simp only [Env.drop] at h
  by_cases hj : j = i
  · subst hj
    rw [List.getElem?_set_self (by have := (List.getElem?_eq_some_iff.1 h).1; simpa using this)] at h
    exact .inr ⟨rfl, (Option.some.inj h).symm⟩
  · rw [List.getElem?_set_ne (fun e => hj e.symm)] at h
    exact .inl ⟨hj, h⟩

theorem ext_drop (i : Nat) : Ext E w (E.drop i) w where
  size := Nat.le_refl _
  keep _ _ _ := rfl
  shape _ _ h := h
  mono j l hl := by
    by_cases hj : i = j
    · subst hj
      exact .inr (by simp only [Env.drop]; rw [List.getElem?_set_self (List.getElem?_eq_some_iff.1 hl).1])
    · exact .inl (by simp only [Env.drop]; rw [List.getElem?_set_ne hj]; exact hl)
  fresh j b hj := by
    rcases drop_at hj with ⟨_, h1⟩ | ⟨_, h1⟩
    · exact .inl ⟨j, h1⟩
    · cases h1
  F := rfl
  os := rfl
  tape := rfl
  output := rfl

include ok in
theorem emb_drop (h : Emb S E H w) (i : Nat) : Emb S (E.drop i) (H.set i .gone) w where
  len := by simp [Env.drop, h.len]
  obj j o l ho hl := by
    rcases drop_at hl with ⟨h1, h2⟩ | ⟨rfl, rfl⟩
    · rw [List.getElem?_set_ne (fun e => h1 e.symm)] at ho
      exact OR.mono ok (ext_drop i) (fun _ _ => rfl) (h.obj j o l ho h2)
    · rw [List.getElem?_set_self (by have := (List.getElem?_eq_some_iff.1 ho).1; simpa using this)] at ho
      simp only [Option.some.injEq] at ho
      subst ho
      trivial
  inj j k b hj hk := by
    rcases drop_at hj with ⟨_, h1⟩ | ⟨_, h1⟩ <;> rcases drop_at hk with ⟨_, h2⟩ | ⟨_, h2⟩
    · exact h.inj j k b h1 h2
    · cases h2
    · cases h1
    · cases h1
  lt j b hj := by
    rcases drop_at hj with ⟨_, h1⟩ | ⟨_, h1⟩
    · exact h.lt j b h1
    · cases h1
  F b hF := ⟨(h.F b hF).1, fun j hj => by
    rcases drop_at hj with ⟨_, h1⟩ | ⟨_, h1⟩
    · exact (h.F b hF).2 j h1
    · cases h1⟩
  gl := h.gl.ext ok (ext_drop i)

/-! ### Cells written into an object -/
theorem shape_setRow {b b' : Nat} {c c' : Array Value} {e : TypeId} {fr : Nat × Nat} (hb : w.heap[b]? = some (.cells c e fr)) (hc : c'.size = c.size) {s : TypeId × Nat} (h : w.shape? b' = some s) :
    (w.setRow b c').shape? b' = some s := by
  by_cases hq : b' = b
  · subst hq
    simp only [World.shape?, hb] at h
    simp only [World.shape?, setRow_heap w b' c c' e fr hb, hc]
    exact h
  · simp only [World.shape?] at h ⊢
    rw [setRow_other w b b' c' hq]
    exact h

theorem ext_setRow {i b : Nat} {c c' : Array Value} {e : TypeId} {fr : Nat × Nat} (hi : E.ρ[i]? = some (.blk b)) (hb : w.heap[b]? = some (.cells c e fr)) (hc : c'.size = c.size) : Ext E w E (w.setRow b c') where
  size := by simp
  keep b' _ hn := setRow_other w b b' c' (fun e => hn i (e ▸ hi))
  shape b' s h := shape_setRow hb hc h
  mono _ _ h := .inl h
  fresh j b' h := .inl ⟨j, h⟩
  F := rfl
  os := rfl
  tape := rfl
  output := rfl

include ok in
theorem emb_setRow (h : Emb S E H w) {i b : Nat} {c c' : Array Value} {e : TypeId} {fr : Nat × Nat} (hi : E.ρ[i]? = some (.blk b)) (hb : w.heap[b]? = some (.cells c e fr)) (hc : c'.size = c.size) {o : AO K El}
    (ho : OR S E (w.setRow b c') o (.blk b)) : Emb S E (H.set i o) (w.setRow b c') where
  len := by simp [h.len]
  obj j o' l ho' hl := by
    by_cases hj : j = i
    · subst hj
      rw [List.getElem?_set_self (by have := (List.getElem?_eq_some_iff.1 ho').1; simpa using this)] at ho'
      simp only [Option.some.injEq] at ho'
      subst ho'
      rw [hi] at hl
      simp only [Option.some.injEq] at hl
      subst hl
      exact ho
    · rw [List.getElem?_set_ne (fun e => hj e.symm)] at ho'
      refine OR.mono ok (ext_setRow hi hb hc) (fun b' hb' => ?_) (h.obj j o' l ho' hl)
      subst hb'
      exact setRow_other w b b' c' (fun e => hj (h.inj j i b (e ▸ hl) hi))
  inj := h.inj
  lt j b' hj := by simpa using h.lt j b' hj
  F b' hF := by simpa using h.F b' hF
  gl := h.gl.ext ok (ext_setRow hi hb hc)

/-! ### Reading -/
include ok in
theorem rd_sound (h : Emb S E H w) {a : AV K El} {n : Nat} {k : List (AV K El) → Prop} (hr : rd S H a n k) {v : Value} (hv : VR S E w a v) :
    ∃ us b o, ∃ cs : List Value, k us ∧ v = .pointer (some ⟨b, o, none⟩) ∧ us.length = n ∧ cs.length = n ∧
      (∀ (j : Nat) u, us[j]? = some u → ∃ c, cs[j]? = some c ∧ u.one = true ∧ VR S E w u c) ∧ ∀ (j : Nat) c, cs[j]? = some c → w.cell? ⟨b, o + j, none⟩ = some c := by
  cases hv with
  | ptr hi =>
    rename_i i off b
    simp only [rd] at hr
    split at hr
    · rename_i vs hx
      obtain ⟨hle, hk⟩ := hr
      obtain ⟨c, e, hb, hsz, hc⟩ : OR S E w (.cells vs) (.blk b) := h.obj i _ _ hx hi
      refine ⟨_, b, off, (c.toList.drop off).take n, hk, rfl, by simp; omega, by simp; omega, fun j u hu => ?_, fun j c' hc' => ?_⟩
      · have hj : j < n := by have := (List.getElem?_eq_some_iff.1 hu).1; simp at this; omega
        rw [List.getElem?_take_of_lt hj, List.getElem?_drop] at hu
        obtain ⟨v, h1, h2, h3⟩ := hc _ u hu
        refine ⟨v, ?_, h2, h3⟩
        rw [List.getElem?_take_of_lt hj, List.getElem?_drop]
        simpa using h1
      · have hj : j < n := by have := (List.getElem?_eq_some_iff.1 hc').1; simp at this; omega
        rw [List.getElem?_take_of_lt hj, List.getElem?_drop] at hc'
        simp only [World.cell?, hb]
        simpa using hc'
    · exact hr.elim
  | eptr hi =>
    rename_i k' i e off b
    simp only [rd] at hr
    split at hr
    · rename_i kr xs hx
      obtain ⟨rfl, he, hle, hk⟩ := hr
      obtain ⟨c, hb, hsz, hc⟩ : OR S E w (.row kr xs) (.blk b) := h.obj i _ _ hx hi
      have hg : xs[e]? = some (xs.getD e (S.zero kr)) := by simp [List.getD, List.getElem?_eq_getElem he]
      have hlen := ok.enc_len kr (xs.getD e (S.zero kr))
      have hee : (e + 1) * S.size kr ≤ xs.length * S.size kr := Nat.mul_le_mul_right _ he
      rw [Nat.succ_mul] at hee
      refine ⟨_, b, e * S.size kr + off, (c.toList.drop (e * S.size kr + off)).take n, hk, rfl, by rw [List.length_take, List.length_drop]; omega, by simp; omega, fun j u hu => ?_, fun j c' hc' => ?_⟩
      · have hj : j < n := by have := (List.getElem?_eq_some_iff.1 hu).1; simp at this; omega
        rw [List.getElem?_take_of_lt hj, List.getElem?_drop] at hu
        obtain ⟨v, h1, h3⟩ := hc e _ hg _ u hu
        refine ⟨v, ?_, ok.one _ _ _ (mem_of_getElem? hu), h3⟩
        rw [List.getElem?_take_of_lt hj, List.getElem?_drop]
        simpa [Nat.add_assoc] using h1
      · have hj : j < n := by have := (List.getElem?_eq_some_iff.1 hc').1; simp at this; omega
        rw [List.getElem?_take_of_lt hj, List.getElem?_drop] at hc'
        simp only [World.cell?, hb]
        simpa using hc'
    · rename_i kr xs e0 vs hx
      obtain ⟨rfl, rfl, hle, hk⟩ := hr
      obtain ⟨c, hb, hsz, he, hvl, _, hc⟩ : OR S E w (.rowx kr xs e vs) (.blk b) := h.obj i _ _ hx hi
      have hee : (e + 1) * S.size kr ≤ xs.length * S.size kr := Nat.mul_le_mul_right _ he
      rw [Nat.succ_mul] at hee
      refine ⟨_, b, e * S.size kr + off, (c.toList.drop (e * S.size kr + off)).take n, hk, rfl, by rw [List.length_take, List.length_drop]; omega, by simp; omega, fun j u hu => ?_, fun j c' hc' => ?_⟩
      · have hj : j < n := by have := (List.getElem?_eq_some_iff.1 hu).1; simp at this; omega
        rw [List.getElem?_take_of_lt hj, List.getElem?_drop] at hu
        obtain ⟨v, h1, h2, h3⟩ := hc _ u hu
        refine ⟨v, ?_, h2, h3⟩
        rw [List.getElem?_take_of_lt hj, List.getElem?_drop]
        simpa [Nat.add_assoc] using h1
      · have hj : j < n := by have := (List.getElem?_eq_some_iff.1 hc').1; simp at this; omega
        rw [List.getElem?_take_of_lt hj, List.getElem?_drop] at hc'
        simp only [World.cell?, hb]
        simpa using hc'
    · exact hr.elim
  | ptrGone hi _ =>
    rename_i i off _
    simp only [rd] at hr
    split at hr
    · rename_i vs hx; exact (h.obj i _ _ hx hi : OR S E w (.cells vs) .gone).elim
    · exact hr.elim
  | eptrGone hi _ =>
    rename_i k' i e off _
    simp only [rd] at hr
    split at hr
    · rename_i kr xs hx; exact (h.obj i _ _ hx hi : OR S E w (.row kr xs) .gone).elim
    · rename_i kr xs e0 vs hx; exact (h.obj i _ _ hx hi : OR S E w (.rowx kr xs e0 vs) .gone).elim
    · exact hr.elim
  | iptr b o cs hs hc hv =>
    rename_i k' xs e off
    obtain ⟨he, hle, hk⟩ := hr
    have hg : xs[e]? = some (xs.getD e (S.zero k')) := by simp [List.getD, List.getElem?_eq_getElem he]
    have hlen := ok.enc_len k' (xs.getD e (S.zero k'))
    have hee : (e + 1) * S.size k' ≤ xs.length * S.size k' := Nat.mul_le_mul_right _ he
    rw [Nat.succ_mul] at hee
    refine ⟨_, b, o + (e * S.size k' + off), (List.range n).map fun j => cs (e * S.size k' + off + j), hk, rfl, by rw [List.length_take, List.length_drop]; omega, by simp, fun j u hu => ?_, fun j c' hc' => ?_⟩
    · have hj : j < n := by have := (List.getElem?_eq_some_iff.1 hu).1; simp at this; omega
      rw [List.getElem?_take_of_lt hj, List.getElem?_drop] at hu
      refine ⟨_, ?_, ok.one _ _ _ (mem_of_getElem? hu), hv e _ _ u hg hu⟩
      simp [hj, Nat.add_assoc]
    · have hj : j < n := by have := (List.getElem?_eq_some_iff.1 hc').1; simpa using this
      simp [hj] at hc'
      subst hc'
      have := hc (e * S.size k' + off + j) (by omega)
      rw [← this]
      congr 2
      omega
  | _ => exact hr.elim

/-! ### Writing -/
theorem splice_get {α : Type} {vs us : List α} {off j : Nat} (hle : off + us.length ≤ vs.length) : (splice vs off us)[j]? = if j < off then vs[j]? else if j < off + us.length then us[j - off]? else vs[j]? := by
  unfold splice
  rw [List.append_assoc]
  by_cases h1 : j < off
  · rw [List.getElem?_append_left (by simp; omega), List.getElem?_take_of_lt h1]; simp [h1]
  · rw [List.getElem?_append_right (by simp; omega)]
    have hl : (vs.take off).length = off := by simp; omega
    rw [hl]
    by_cases h2 : j < off + us.length
    · rw [List.getElem?_append_left (by omega)]; simp [h1, h2]
    · rw [List.getElem?_append_right (by omega), List.getElem?_drop]
      simp only [h1, h2, if_false]
      congr 1
      omega

theorem splice_length {α : Type} {vs us : List α} {off : Nat} (hle : off + us.length ≤ vs.length) : (splice vs off us).length = vs.length := by
  unfold splice; simp; omega

include ok in
theorem wr_sound (h : Emb S E H w) {a : AV K El} {us : List (AV K El)} {k : Heap K El → Prop} (hr : wr S H a us k) {v : Value} (hv : VR S E w a v)
    {cs : List Value} (hl : cs.length = us.length) (hcs : ∀ (j : Nat) u, us[j]? = some u → ∃ c, cs[j]? = some c ∧ u.one = true ∧ VR S E w u c) :
    ∃ H' b o w', k H' ∧ v = .pointer (some ⟨b, o, none⟩) ∧ (storeCells ⟨b, o, none⟩ cs).run S.P w = .ok () w' ∧ Emb S E H' w' ∧ Ext E w E w' := by
  have hone : ∀ c ∈ cs, c.oneCell' = true := by
    intro c hc
    obtain ⟨j, hj⟩ := List.mem_iff_getElem?.1 hc
    have hjl : j < us.length := by have := (List.getElem?_eq_some_iff.1 hj).1; omega
    obtain ⟨c', h1, h2, h3⟩ := hcs j us[j] (List.getElem?_eq_getElem hjl)
    rw [hj] at h1
    simp only [Option.some.injEq] at h1
    subst h1
    exact h3.oneCell h2
  have hset : ∀ (c : Array Value) (o : Nat), o + cs.length ≤ c.size → (c.toList.take (o + 0) ++ cs ++ c.toList.drop (o + 0 + cs.length)).toArray.size = c.size := by
    intro c o ho
    simp; omega
  have hget : ∀ (c : Array Value) (o j : Nat), o + cs.length ≤ c.size → (c.toList.take (o + 0) ++ cs ++ c.toList.drop (o + 0 + cs.length)).toArray[j]? = if j < o then c[j]? else if j < o + cs.length then cs[j - o]? else c[j]? := by
    intro c o j ho
    have := splice_get (vs := c.toList) (us := cs) (off := o) (j := j) (by simpa using ho)
    simpa [splice] using this
  cases hv with
  | ptr hi =>
    rename_i i off b
    simp only [wr] at hr
    split at hr
    · rename_i vs hx
      obtain ⟨hle, hk⟩ := hr
      obtain ⟨c, e, hb, hsz, hc⟩ : OR S E w (.cells vs) (.blk b) := h.obj i _ _ hx hi
      have hfit : off + cs.length ≤ c.size := by omega
      have hrun := run_storeCells_at S.P b off e cs 0 c w hb (by simpa using hfit) hone
      have hs := hset c off hfit
      have hxt := ext_setRow hi hb hs
      refine ⟨_, b, off, _, hk, rfl, hrun, emb_setRow ok h hi hb hs ⟨_, e, setRow_heap w b c _ e _ hb, ?_, fun j u hu => ?_⟩, hxt⟩
      · rw [hs, splice_length hle]; exact hsz
      · rw [hget c off j hfit]
        rw [splice_get hle] at hu
        by_cases h1 : j < off
        · simp only [h1, if_true] at hu ⊢
          obtain ⟨v, k1, k2, k3⟩ := hc j u hu
          exact ⟨v, k1, k2, VR.mono ok hxt k3⟩
        · by_cases h2 : j < off + us.length
          · have h2' : j < off + cs.length := by omega
            simp only [h1, h2, h2', if_true, if_false] at hu ⊢
            obtain ⟨v, k1, k2, k3⟩ := hcs _ u hu
            exact ⟨v, k1, k2, VR.mono ok hxt k3⟩
          · have h2' : ¬ j < off + cs.length := by omega
            simp only [h1, h2, h2', if_false] at hu ⊢
            obtain ⟨v, k1, k2, k3⟩ := hc j u hu
            exact ⟨v, k1, k2, VR.mono ok hxt k3⟩
    · exact hr.elim
  | eptr hi =>
    rename_i k' i e off b
    simp only [wr] at hr
    split at hr
    · rename_i kr xs hx
      obtain ⟨rfl, he, hle, hk⟩ := hr
      split at hk
      · rename_i x hux
        obtain ⟨c, hb, hsz, hc⟩ : OR S E w (.row kr xs) (.blk b) := h.obj i _ _ hx hi
        have hg : xs[e]? = some (xs.getD e (S.zero kr)) := by simp [List.getD, List.getElem?_eq_getElem he]
        have hlen := ok.enc_len kr (xs.getD e (S.zero kr))
        have henc := ok.unc_enc _ _ _ hux
        have hee : (e + 1) * S.size kr ≤ xs.length * S.size kr := Nat.mul_le_mul_right _ he
        rw [Nat.succ_mul] at hee
        have hfit : e * S.size kr + off + cs.length ≤ c.size := by omega
        have hrun := run_storeCells_at S.P b (e * S.size kr + off) (S.ty kr) cs 0 c w hb (by simpa using hfit) hone
        have hs := hset c (e * S.size kr + off) hfit
        have hxt := ext_setRow hi hb hs
        refine ⟨_, b, e * S.size kr + off, _, hk, rfl, hrun, emb_setRow ok h hi hb hs ⟨_, setRow_heap w b c _ _ _ hb, ?_, fun j y hy t u hu => ?_⟩, hxt⟩
        · rw [hs, List.length_set]; exact hsz
        · rw [hget c _ _ hfit]
          have htl : t < S.size kr := by rw [← ok.enc_len kr y]; exact (List.getElem?_eq_some_iff.1 hu).1
          by_cases hj : j = e
          · subst hj
            rw [List.getElem?_set_self he] at hy
            simp only [Option.some.injEq] at hy
            subst hy
            rw [henc, splice_get (by omega)] at hu
            by_cases h1 : t < off
            · have h1' : j * S.size kr + t < j * S.size kr + off := by omega
              simp only [h1, h1', if_true] at hu ⊢
              obtain ⟨v, k1, k3⟩ := hc j _ hg t u hu
              exact ⟨v, k1, VR.mono ok hxt k3⟩
            · have h1' : ¬ j * S.size kr + t < j * S.size kr + off := by omega
              by_cases h2 : t < off + us.length
              · have h2' : j * S.size kr + t < j * S.size kr + off + cs.length := by omega
                simp only [h1, h1', h2, h2', if_true, if_false] at hu ⊢
                obtain ⟨v, k1, k2, k3⟩ := hcs _ u hu
                refine ⟨v, ?_, VR.mono ok hxt k3⟩
                rw [← k1]; congr 1; omega
              · have h2' : ¬ j * S.size kr + t < j * S.size kr + off + cs.length := by omega
                simp only [h1, h1', h2, h2', if_false] at hu ⊢
                obtain ⟨v, k1, k3⟩ := hc j _ hg t u hu
                exact ⟨v, k1, VR.mono ok hxt k3⟩
          · rw [List.getElem?_set_ne (fun q => hj q.symm)] at hy
            obtain ⟨v, k1, k3⟩ := hc j y hy t u hu
            refine ⟨v, ?_, VR.mono ok hxt k3⟩
            by_cases hlt : j < e
            · have : (j + 1) * S.size kr ≤ e * S.size kr := Nat.mul_le_mul_right _ hlt
              rw [Nat.succ_mul] at this
              have h1' : j * S.size kr + t < e * S.size kr + off := by omega
              simp only [h1', if_true]; exact k1
            · have : (e + 1) * S.size kr ≤ j * S.size kr := Nat.mul_le_mul_right _ (by omega)
              rw [Nat.succ_mul] at this
              have h1' : ¬ j * S.size kr + t < e * S.size kr + off := by omega
              have h2' : ¬ j * S.size kr + t < e * S.size kr + off + cs.length := by omega
              simp only [h1', h2', if_false]; exact k1
      · exact hk.elim
    · rename_i kr xs e0 vs hx
      obtain ⟨rfl, rfl, hle, hk⟩ := hr
      obtain ⟨c, hb, hsz, he, hvl, ho, hc⟩ : OR S E w (.rowx kr xs e vs) (.blk b) := h.obj i _ _ hx hi
      have hee : (e + 1) * S.size kr ≤ xs.length * S.size kr := Nat.mul_le_mul_right _ he
      rw [Nat.succ_mul] at hee
      have hfit : e * S.size kr + off + cs.length ≤ c.size := by omega
      have hrun := run_storeCells_at S.P b (e * S.size kr + off) (S.ty kr) cs 0 c w hb (by simpa using hfit) hone
      have hs := hset c (e * S.size kr + off) hfit
      have hxt := ext_setRow hi hb hs
      refine ⟨_, b, e * S.size kr + off, _, hk, rfl, hrun, emb_setRow ok h hi hb hs ⟨_, setRow_heap w b c _ _ _ hb, ?_, he, by rw [splice_length hle]; exact hvl, fun j y hj hy t u hu => ?_, fun t u hu => ?_⟩, hxt⟩
      · rw [hs]; exact hsz
      · rw [hget c _ _ hfit]
        have htl : t < S.size kr := by rw [← ok.enc_len kr y]; exact (List.getElem?_eq_some_iff.1 hu).1
        obtain ⟨v, k1, k3⟩ := ho j y hj hy t u hu
        refine ⟨v, ?_, VR.mono ok hxt k3⟩
        by_cases hlt : j < e
        · have : (j + 1) * S.size kr ≤ e * S.size kr := Nat.mul_le_mul_right _ hlt
          rw [Nat.succ_mul] at this
          have h1' : j * S.size kr + t < e * S.size kr + off := by omega
          simp only [h1', if_true]; exact k1
        · have : (e + 1) * S.size kr ≤ j * S.size kr := Nat.mul_le_mul_right _ (by omega)
          rw [Nat.succ_mul] at this
          have h1' : ¬ j * S.size kr + t < e * S.size kr + off := by omega
          have h2' : ¬ j * S.size kr + t < e * S.size kr + off + cs.length := by omega
          simp only [h1', h2', if_false]; exact k1
      · rw [hget c _ _ hfit]
        rw [splice_get hle] at hu
        by_cases h1 : t < off
        · have h1' : e * S.size kr + t < e * S.size kr + off := by omega
          simp only [h1, h1', if_true] at hu ⊢
          obtain ⟨v, k1, k2, k3⟩ := hc t u hu
          exact ⟨v, k1, k2, VR.mono ok hxt k3⟩
        · have h1' : ¬ e * S.size kr + t < e * S.size kr + off := by omega
          by_cases h2 : t < off + us.length
          · have h2' : e * S.size kr + t < e * S.size kr + off + cs.length := by omega
            simp only [h1, h1', h2, h2', if_true, if_false] at hu ⊢
            obtain ⟨v, k1, k2, k3⟩ := hcs _ u hu
            refine ⟨v, ?_, k2, VR.mono ok hxt k3⟩
            rw [← k1]; congr 1; omega
          · have h2' : ¬ e * S.size kr + t < e * S.size kr + off + cs.length := by omega
            simp only [h1, h1', h2, h2', if_false] at hu ⊢
            obtain ⟨v, k1, k2, k3⟩ := hc t u hu
            exact ⟨v, k1, k2, VR.mono ok hxt k3⟩
    · exact hr.elim
  | ptrGone hi _ =>
    rename_i i off _
    simp only [wr] at hr
    split at hr
    · rename_i vs hx; exact (h.obj i _ _ hx hi : OR S E w (.cells vs) .gone).elim
    · exact hr.elim
  | eptrGone hi _ =>
    rename_i k' i e off _
    simp only [wr] at hr
    split at hr
    · rename_i kr xs hx; exact (h.obj i _ _ hx hi : OR S E w (.row kr xs) .gone).elim
    · rename_i kr xs e0 vs hx; exact (h.obj i _ _ hx hi : OR S E w (.rowx kr xs e0 vs) .gone).elim
    · exact hr.elim
  | _ => exact hr.elim

end
end Sh
end Go.Proofs.YtomdfaelgcefdaaGreatDoor
