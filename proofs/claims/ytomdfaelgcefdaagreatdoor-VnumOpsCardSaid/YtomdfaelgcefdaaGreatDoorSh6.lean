/- The shadow machine, part 6: slices: what they hold, append, copy, make, cutting. -/
import Derived.Test.YtomdfaelgcefdaaGreatDoorSh5
namespace Go.Proofs.YtomdfaelgcefdaaGreatDoor
open Go
namespace Sh
variable {K : Type} {El : K → Type} {S : Seat K El}

theorem castL_some {k k' : K} {xs : List (El k)} {ys : List (El k')} (h : castL S k k' xs = some ys) : ∃ e : k = k', e ▸ xs = ys := by
  unfold castL at h
  split at h
  · rename_i e _; exact ⟨e, by simpa using h⟩
  · cases h

@[simp] theorem castL_self (S : Seat K El) (k : K) (xs : List (El k)) : castL S k k xs = some xs := by
  unfold castL
  split
  · rfl
  · rename_i h _; exact absurd rfl h

/-- Cells that hold a list's elements. -/
structure CellsOf (S : Seat K El) (E : Env) (w : World) (k : K) (ys : List (El k)) (cs : List Value) : Prop where
  len : cs.length = ys.length * S.size k
  get : ∀ (j : Nat) y, ys[j]? = some y → ∀ (t : Nat) u, (S.enc k y)[t]? = some u → ∃ c, cs[j * S.size k + t]? = some c ∧ VR S E w u c

section
variable (ok : Ok S) {E E' : Env} {H : Heap K El} {w w' : World} {k : K}

theorem CellsOf.nil : CellsOf S E w k [] [] := ⟨by simp, fun j y h => by simp at h⟩

include ok in
theorem CellsOf.mono {ys : List (El k)} {cs : List Value} (h : CellsOf S E w k ys cs) (hx : Ext E w E' w') : CellsOf S E' w' k ys cs :=
  ⟨h.len, fun j y hy t u hu => let ⟨c, h1, h2⟩ := h.get j y hy t u hu; ⟨c, h1, VR.mono ok hx h2⟩⟩

include ok in
theorem CellsOf.one {ys : List (El k)} {cs : List Value} (h : CellsOf S E w k ys cs) : ∀ c ∈ cs, c.oneCell' = true := by
  intro c hc
  obtain ⟨m, hm⟩ := List.mem_iff_getElem?.1 hc
  have hpos := ok.pos k
  have hml : m < ys.length * S.size k := by rw [← h.len]; exact (List.getElem?_eq_some_iff.1 hm).1
  have hj : m / S.size k < ys.length := (Nat.div_lt_iff_lt_mul hpos).2 hml
  have ht : m % S.size k < S.size k := Nat.mod_lt _ hpos
  have htl : m % S.size k < (S.enc k ys[m / S.size k]).length := by rw [ok.enc_len]; exact ht
  obtain ⟨c', h1, h2⟩ := h.get (m / S.size k) _ (List.getElem?_eq_getElem hj) (m % S.size k) _ (List.getElem?_eq_getElem htl)
  rw [show m / S.size k * S.size k + m % S.size k = m by rw [Nat.mul_comm]; exact Nat.div_add_mod m _, hm] at h1
  simp only [Option.some.injEq] at h1
  subst h1
  exact h2.oneCell (ok.one _ _ _ (List.getElem_mem htl))

include ok in
theorem CellsOf.append {ys zs : List (El k)} {cs ds : List Value} (h : CellsOf S E w k ys cs) (h' : CellsOf S E w k zs ds) : CellsOf S E w k (ys ++ zs) (cs ++ ds) where
  len := by simp [h.len, h'.len, Nat.add_mul]
  get j y hy t u hu := by
    have htl : t < S.size k := by rw [← ok.enc_len k y]; exact (List.getElem?_eq_some_iff.1 hu).1
    by_cases hj : j < ys.length
    · rw [List.getElem?_append_left hj] at hy
      obtain ⟨c, h1, h2⟩ := h.get j y hy t u hu
      exact ⟨c, by rw [List.getElem?_append_left (List.getElem?_eq_some_iff.1 h1).1]; exact h1, h2⟩
    · rw [List.getElem?_append_right (by omega)] at hy
      obtain ⟨c, h1, h2⟩ := h'.get _ y hy t u hu
      have hm : ys.length * S.size k ≤ j * S.size k := Nat.mul_le_mul_right _ (by omega)
      refine ⟨c, ?_, h2⟩
      rw [List.getElem?_append_right (by rw [h.len]; omega), h.len]
      rw [← h1]
      congr 1
      rw [Nat.sub_mul]
      omega

include ok in
theorem CellsOf.take {ys : List (El k)} {cs : List Value} (h : CellsOf S E w k ys cs) (n : Nat) : CellsOf S E w k (ys.take n) (cs.take (n * S.size k)) where
  len := by
    rw [List.length_take, h.len, List.length_take]
    rcases Nat.le_total n ys.length with hle | hle
    · have := Nat.mul_le_mul_right (S.size k) hle
      rw [Nat.min_eq_left this, Nat.min_eq_left hle]
    · have := Nat.mul_le_mul_right (S.size k) hle
      rw [Nat.min_eq_right this, Nat.min_eq_right hle]
  get j y hy t u hu := by
    have htl : t < S.size k := by rw [← ok.enc_len k y]; exact (List.getElem?_eq_some_iff.1 hu).1
    have hj : j < n := by have := (List.getElem?_eq_some_iff.1 hy).1; simp at this; omega
    rw [List.getElem?_take_of_lt hj] at hy
    obtain ⟨c, h1, h2⟩ := h.get j y hy t u hu
    have hm : (j + 1) * S.size k ≤ n * S.size k := Nat.mul_le_mul_right _ hj
    rw [Nat.succ_mul] at hm
    exact ⟨c, by rw [List.getElem?_take_of_lt (by omega)]; exact h1, h2⟩

theorem CellsOf.drop {ys : List (El k)} {cs : List Value} (h : CellsOf S E w k ys cs) (n : Nat) : CellsOf S E w k (ys.drop n) (cs.drop (n * S.size k)) where
  len := by rw [List.length_drop, h.len, List.length_drop, Nat.sub_mul]
  get j y hy t u hu := by
    rw [List.getElem?_drop] at hy
    obtain ⟨c, h1, h2⟩ := h.get _ y hy t u hu
    refine ⟨c, ?_, h2⟩
    rw [List.getElem?_drop, ← h1, Nat.add_mul, Nat.add_assoc]

include ok in
/-- A row's cells. -/
theorem row_cells {xs : List (El k)} {b : Nat} (h : OR S E w (.row k xs) (.blk b)) : ∃ c, w.heap[b]? = some (.cells c (S.ty k) (0, 0)) ∧ xs.length * S.size k ≤ c.size ∧ CellsOf S E w k xs (c.toList.take (xs.length * S.size k)) := by
  obtain ⟨c, h1, h2, h3⟩ := h
  refine ⟨c, h1, h2, by simp; omega, fun j y hy t u hu => ?_⟩
  obtain ⟨v, k1, k2⟩ := h3 j y hy t u hu
  refine ⟨v, ?_, k2⟩
  have hj := (List.getElem?_eq_some_iff.1 hy).1
  by_cases hlt : j * S.size k + t < xs.length * S.size k
  · rw [List.getElem?_take_of_lt hlt]; simpa using k1
  · exfalso
    have hm : (j + 1) * S.size k ≤ xs.length * S.size k := Nat.mul_le_mul_right _ hj
    have ht := (List.getElem?_eq_some_iff.1 hu).1
    rw [ok.enc_len] at ht
    rw [Nat.succ_mul] at hm
    omega

theorem row_of_cells {xs : List (El k)} {cs : List Value} (h : CellsOf S E w k xs cs) {b : Nat} {c : Array Value} (hb : w.heap[b]? = some (.cells c (S.ty k) (0, 0))) (hc : c.toList.take (xs.length * S.size k) = cs) :
    OR S E w (.row k xs) (.blk b) := by
  have hl := h.len
  rw [← hc] at hl
  simp at hl
  refine ⟨c, hb, by omega, fun j y hy t u hu => ?_⟩
  obtain ⟨v, h1, h2⟩ := h.get j y hy t u hu
  refine ⟨v, ?_, h2⟩
  rw [← hc] at h1
  have hlt := (List.getElem?_eq_some_iff.1 h1).1
  rw [List.getElem?_take_of_lt (by simp at hlt; omega)] at h1
  simpa using h1

/-- What a slice's value stands for. -/
structure SliceOf (S : Seat K El) (E : Env) (w : World) (k : K) (ys : List (El k)) (v : Value) (cs : List Value) : Prop where
  cells : CellsOf S E w k ys cs
  val : ∃ A cap, v = .slice A ys.length cap ∧ ∀ (j : Nat) c, cs[j]? = some c → ∃ b o, A = some ⟨b, o, none⟩ ∧ w.cell? ⟨b, o + j, none⟩ = some c

include ok in
theorem content_sound (h : Emb S E H w) {s : AV K El} {kt : List (El k) → Prop} (hr : content S H k s kt) {v : Value} (hv : VR S E w s v) : ∃ ys cs, kt ys ∧ SliceOf S E w k ys v cs := by
  cases hv with
  | nils => exact ⟨[], [], hr, .nil, none, 0, rfl, fun j c h => by simp at h⟩
  | immNil A cap hm =>
    simp only [content] at hr
    split at hr
    · rename_i ys hy
      obtain ⟨rfl, rfl⟩ := castL_some hy
      exact ⟨[], [], hr, .nil, A, cap, rfl, fun j c h => by simp at h⟩
    · exact hr.elim
  | imm b o cap cs hs hle hm hc hv =>
    rename_i k' xs
    simp only [content] at hr
    split at hr
    · rename_i ys hy
      obtain ⟨rfl, rfl⟩ := castL_some hy
      refine ⟨xs, (List.range (xs.length * S.size k')).map cs, hr, ⟨by simp, fun j y hy t u hu => ?_⟩, some ⟨b, o, none⟩, cap, rfl, fun j c hj => ?_⟩
      · refine ⟨_, ?_, hv j y t u hy hu⟩
        have hj := (List.getElem?_eq_some_iff.1 hy).1
        have ht := (List.getElem?_eq_some_iff.1 hu).1
        rw [ok.enc_len] at ht
        have hm : (j + 1) * S.size k' ≤ xs.length * S.size k' := Nat.mul_le_mul_right _ hj
        rw [Nat.succ_mul] at hm
        have hlt : j * S.size k' + t < xs.length * S.size k' := by omega
        simp [hlt]
      · have hlt : j < xs.length * S.size k' := by have := (List.getElem?_eq_some_iff.1 hj).1; simpa using this
        simp [hlt] at hj
        subst hj
        exact ⟨b, o, rfl, hc j hlt⟩
    · exact hr.elim
  | ownNil hi =>
    rename_i k' i c
    simp only [content] at hr
    split at hr
    · rename_i kr xs hx
      obtain ⟨rfl, hle, hr⟩ := hr
      split at hr
      · rename_i ys hy
        obtain ⟨rfl, rfl⟩ := castL_some hy
        exact ⟨_, [], hr, by simpa using CellsOf.nil, none, 0, by simp, fun j c h => by simp at h⟩
      · exact hr.elim
    · exact hr.elim
  | ownGone hi _ =>
    rename_i k' i lo len c _
    simp only [content] at hr
    split at hr
    · rename_i kr xs hx; exact (h.obj i _ _ hx hi : OR S E w (.row kr xs) .gone).elim
    · exact hr.elim
  | own hi hf hw hle hm ho =>
    rename_i k' i lo len c b o cap
    simp only [content] at hr
    split at hr
    · rename_i kr xs hx
      obtain ⟨rfl, hlen, hr⟩ := hr
      split at hr
      · rename_i ys hy
        obtain ⟨rfl, rfl⟩ := castL_some hy
        obtain ⟨cc, hb, hsz, hcs⟩ := row_cells ok (h.obj i _ _ hx hi)
        have hd := (hcs.drop lo).take ok len
        refine ⟨_, _, hr, hd, some ⟨b, o, none⟩, cap, ?_, fun j c hj => ⟨b, o, rfl, ?_⟩⟩
        · have : ((xs.drop lo).take len).length = len := by simp; omega
          simp only [this]
        · have hjl : j < len * S.size kr := by have := (List.getElem?_eq_some_iff.1 hj).1; simp at this; omega
          have ho' : o = lo * S.size kr := by
            rcases ho with ho | ⟨_, h0, _⟩
            · exact ho
            · rw [h0] at hjl; simp at hjl
          have hjl' := (List.getElem?_eq_some_iff.1 hj).1
          rw [List.getElem?_take_of_lt hjl, List.getElem?_drop, List.getElem?_take_of_lt (by simp at hjl'; omega)] at hj
          simp only [World.cell?, hb, ho']
          simpa using hj
      · exact hr.elim
    · exact hr.elim
  | _ => exact hr.elim

include ok in
theorem app_new (h : Emb S E H w) {zs : List (El k)} {cs : List Value} (hc : CellsOf S E w k zs cs) {rest : Array Value} {cap : Nat} (hcap : zs.length ≤ cap) (hm : cap ≤ maxLen)
    (hsz : (cs.toArray ++ rest).size = cap * S.size k) {w1 : World} (hh : w1.heap = w.heap.push (.cells (cs.toArray ++ rest) (S.ty k))) (ht : w1.tape = w.tape) (hos : w1.os = w.os) (hout : w1.output = w.output) :
    ∃ E1, Emb S E1 (H ++ [.row k zs]) w1 ∧ Ext E w E1 w1 ∧ VR S E1 w1 (.own k H.length 0 zs.length .whole) (.slice (some ⟨w.heap.size, 0, none⟩) zs.length cap) := by
  have hx : Ext E w ⟨E.ρ ++ [.blk w.heap.size], E.F⟩ w1 := ext_push hh ht hos hout
  have hb : w1.heap[w.heap.size]? = some (.cells (cs.toArray ++ rest) (S.ty k)) := by rw [hh]; simp
  refine ⟨_, emb_push ok h hh ht hos hout (row_of_cells (hc.mono ok hx) hb ?_), hx, ?_⟩
  · rw [← hc.len]; simp
  · refine .own ?_ (by simp) (fun _ => ⟨S.ty k, ?_⟩) hcap hm (.inl (by simp))
    · simp only []; rw [← h.len]; simp
    · simp only [World.shape?, hb, hsz]; simp

theorem ext_of_eq {w1 : World} (hh : w1.heap = w.heap) (ht : w1.tape = w.tape) (hos : w1.os = w.os) (hout : w1.output = w.output) : Ext E w E w1 where
  size := by rw [hh]; exact Nat.le_refl _
  keep b _ _ := by rw [hh]
  shape b s h := by simp only [World.shape?] at h ⊢; rw [hh]; exact h
  mono i l hl := .inl hl
  fresh i b hi := .inl ⟨i, hi⟩
  F := rfl
  os := hos
  tape := ht
  output := hout

/-- An object gets another number. -/
def Env.mv (E : Env) (i : Nat) (l : Loc) : Env := ⟨E.ρ.set i .gone ++ [l], E.F⟩

include ok in
theorem emb_mv (h : Emb S E H w) {i : Nat} {l : Loc} {o : AO K El} (hi : E.ρ[i]? = some l) (ho : H[i]? = some o) : Emb S (E.mv i l) (H.set i .gone ++ [o]) w ∧ Ext E w (E.mv i l) w := by
  have hil : i < E.ρ.length := (List.getElem?_eq_some_iff.1 hi).1
  have split : ∀ (j : Nat) (l' : Loc), (E.mv i l).ρ[j]? = some l' → (j ≠ i ∧ j < E.ρ.length ∧ E.ρ[j]? = some l') ∨ (j = i ∧ l' = .gone) ∨ (j = E.ρ.length ∧ l' = l) := by
    intro j l' hj
    simp only [Env.mv] at hj
    rcases Nat.lt_or_ge j E.ρ.length with hlt | hge
    · rw [List.getElem?_append_left (by simpa using hlt)] at hj
      rcases drop_at (E := E) (i := i) (j := j) (l := l') hj with ⟨h1, h2⟩ | ⟨h1, h2⟩
      · exact .inl ⟨h1, hlt, h2⟩
      · exact .inr (.inl ⟨h1, h2⟩)
    · rw [List.getElem?_append_right (by simpa using hge)] at hj
      simp only [List.length_set] at hj
      cases hq : j - E.ρ.length with
      | zero => rw [hq] at hj; simp at hj; exact .inr (.inr ⟨by omega, hj.symm⟩)
      | succ n => rw [hq] at hj; simp at hj
  have hx : Ext E w (E.mv i l) w := by
    refine ⟨Nat.le_refl _, fun _ _ _ => rfl, fun _ _ h => h, fun j l' hl => ?_, fun j b hj => ?_, rfl, rfl, rfl, rfl⟩
    · have hjl := (List.getElem?_eq_some_iff.1 hl).1
      simp only [Env.mv]
      rw [List.getElem?_append_left (by simpa using hjl)]
      by_cases hj : i = j
      · subst hj; exact .inr (by rw [List.getElem?_set_self hjl])
      · exact .inl (by rw [List.getElem?_set_ne hj]; exact hl)
    · rcases split j _ hj with ⟨_, _, h3⟩ | ⟨_, h2⟩ | ⟨_, h2⟩
      · exact .inl ⟨j, h3⟩
      · cases h2
      · exact .inl ⟨i, h2 ▸ hi⟩
  refine ⟨⟨by simp [Env.mv, h.len], fun j o' l' ho' hj => ?_, fun j j' b hj hj' => ?_, fun j b hj => ?_, fun b hF => ⟨(h.F b hF).1, fun j hj => ?_⟩, h.gl.ext ok hx⟩, hx⟩
  · rcases split j l' hj with ⟨h1, h2, h3⟩ | ⟨rfl, rfl⟩ | ⟨rfl, rfl⟩
    · rw [List.getElem?_append_left (by rw [List.length_set, ← h.len]; exact h2), List.getElem?_set_ne (fun e => h1 e.symm)] at ho'
      exact OR.mono ok hx (fun _ _ => rfl) (h.obj j o' l' ho' h3)
    · rw [List.getElem?_append_left (by rw [List.length_set, ← h.len]; exact hil), List.getElem?_set_self (by rw [← h.len]; exact hil)] at ho'
      simp only [Option.some.injEq] at ho'
      subst ho'
      trivial
    · rw [h.len, List.getElem?_append_right (by simp)] at ho'
      simp at ho'
      subst ho'
      exact OR.mono ok hx (fun _ _ => rfl) (h.obj i _ _ ho hi)
  · rcases split j _ hj with ⟨_, a2, a3⟩ | ⟨_, a2⟩ | ⟨a1, a2⟩ <;> rcases split j' _ hj' with ⟨_, b2, b3⟩ | ⟨_, b2⟩ | ⟨b1, b2⟩
    · exact h.inj j j' b a3 b3
    · cases b2
    · have := h.inj j i b a3 (b2 ▸ hi); omega
    · cases a2
    · cases a2
    · cases a2
    · have := h.inj j' i b b3 (a2 ▸ hi); omega
    · cases b2
    · omega
  · rcases split j _ hj with ⟨_, _, a3⟩ | ⟨_, a2⟩ | ⟨_, a2⟩
    · exact h.lt j b a3
    · cases a2
    · exact h.lt i b (a2 ▸ hi)
  · rcases split j _ hj with ⟨_, _, a3⟩ | ⟨_, a2⟩ | ⟨_, a2⟩
    · exact (h.F b hF).2 j a3
    · cases a2
    · exact (h.F b hF).2 i (a2 ▸ hi)

end
end Sh
end Go.Proofs.YtomdfaelgcefdaaGreatDoor
