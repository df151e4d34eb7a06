/- The shadow machine, part 10: parts laid into a value, rows of literals, equality of plain data. -/
import Derived.Test.YtomdfaelgcefdaaGreatDoorSh9
import Derived.Laws.StructEq
import Derived.Laws.Tables
import Derived.ChangeKeysEq
namespace Go.Proofs.YtomdfaelgcefdaaGreatDoor
open Go
namespace Sh
variable {K : Type} {El : K → Type} {S : Seat K El}

/-! ### Parts -/
theorem foldl_set (l : List Value) : ∀ (s off : Nat) (cs : Array Value), (List.foldl (fun cs (x : Value × Nat) => cs.setIfInBounds (off + x.2) x.1) cs (l.zipIdx s)).size = cs.size ∧
    ∀ (m : Nat), m < cs.size → (List.foldl (fun cs (x : Value × Nat) => cs.setIfInBounds (off + x.2) x.1) cs (l.zipIdx s))[m]? = if off + s ≤ m ∧ m < off + s + l.length then l[m - (off + s)]? else cs[m]? := by
  induction l with
  | nil =>
    intro s off cs
    refine ⟨by simp, fun m _ => ?_⟩
    rw [if_neg (by simp only [List.length_nil]; omega)]
    simp
  | cons a l ih =>
    intro s off cs
    simp only [List.zipIdx_cons, List.foldl_cons]
    obtain ⟨h1, h2⟩ := ih (s + 1) off (cs.setIfInBounds (off + s) a)
    refine ⟨by rw [h1]; simp, fun m hm => ?_⟩
    rw [h2 m (by simpa using hm)]
    by_cases hms : m = off + s
    · subst hms
      have : ¬ (off + (s + 1) ≤ off + s ∧ off + s < off + (s + 1) + l.length) := by omega
      rw [if_neg this, if_pos ⟨by omega, by simp⟩]
      simp [hm]
    · by_cases h : off + (s + 1) ≤ m ∧ m < off + (s + 1) + l.length
      · rw [if_pos h, if_pos ⟨by omega, by simp; omega⟩]
        rw [show m - (off + s) = (m - (off + (s + 1))) + 1 by omega]
        simp
      · rw [if_neg h, if_neg (by simp; omega)]
        rw [Array.getElem?_setIfInBounds]
        simp [Ne.symm hms]

/-- A value's cells against a shadow's. -/
def CellsR (S : Seat K El) (E : Env) (w : World) (us : List (AV K El)) (cs : Array Value) : Prop :=
  cs.size = us.length ∧ ∀ (j : Nat) u, us[j]? = some u → ∃ c, cs[j]? = some c ∧ u.one = true ∧ VR S E w u c

theorem VR2.cells {E : Env} {w : World} {u : AV K El} {v : Value} (h : VR2 S E w u v) (hone : u.cells.all AV.one = true) : CellsR S E w u.cells v.cells := by
  cases hp : u.plain with
  | true =>
    rw [VR2_plain hp] at h
    have hu : u.cells = [u] := by cases u <;> first | rfl | simp [AV.plain] at hp
    rw [hu] at hone ⊢
    simp at hone
    have hv : v.cells = #[v] := by
      have := h.oneCell hone
      cases v <;> first | rfl | simp [Value.oneCell'] at this
    rw [hv]
    refine ⟨rfl, fun j u' hj => ?_⟩
    cases j with
    | zero => simp at hj; subst hj; exact ⟨v, rfl, hone, h⟩
    | succ j => simp at hj
  | false =>
    cases u <;> simp [AV.plain] at hp
    case agg cs =>
      obtain ⟨a, rfl, h1, h2⟩ := h
      exact ⟨h1, h2⟩
    case tup cs => simp [AV.cells, AV.one] at hone

theorem lay_fill {E : Env} {w : World} (place : Nat → Option (Nat × Nat)) : ∀ (ps : List (Nat × Nat)) (is : List Nat) (us : List (AV K El)) (vals : List Value) (z z' : List (AV K El)) (zc : Array Value),
    lay z ps us = some z' → is.length = ps.length → vals.length = us.length → (∀ (j : Nat) i p, is[j]? = some i → ps[j]? = some p → place i = some p) →
    (∀ (j : Nat) u v, us[j]? = some u → vals[j]? = some v → VR2 S E w u v) → CellsR S E w z zc →
    ∃ cc, Instr.fill place zc (is.zip vals) = some cc ∧ CellsR S E w z' cc := by
  intro ps
  induction ps with
  | nil =>
    intro is us vals z z' zc hl hi hv hp hus hz
    have : is = [] := List.eq_nil_of_length_eq_zero (by simpa using hi)
    subst this
    cases us with
    | nil => simp [lay] at hl; subst hl; exact ⟨zc, by simp [Instr.fill], hz⟩
    | cons a l => simp [lay] at hl
  | cons p ps ih =>
    intro is us vals z z' zc hl hi hv hp hus hz
    obtain ⟨off, n⟩ := p
    cases us with
    | nil => simp [lay] at hl
    | cons u us =>
      cases is with
      | nil => simp at hi
      | cons i is =>
        cases vals with
        | nil => simp at hv
        | cons v vals =>
          simp only [lay] at hl
          split at hl
          · rename_i hc
            obtain ⟨hn, hle, hone⟩ := hc
            have hpl : place i = some (off, n) := hp 0 i _ rfl rfl
            have huv := (hus 0 u v rfl rfl).cells hone
            have hvs : v.cells.size = n := by rw [huv.1, hn]
            have hbad : ¬ ((v.cells.size ≠ n || off + v.cells.size > zc.size) = true) := by simp [hvs, hz.1]; omega
            obtain ⟨f1, f2⟩ := foldl_set v.cells.toList 0 off zc
            have hfold : Array.foldl (fun cs (x : Value × Nat) => cs.setIfInBounds (off + x.2) x.1) zc v.cells.zipIdx = List.foldl (fun cs (x : Value × Nat) => cs.setIfInBounds (off + x.2) x.1) zc (v.cells.toList.zipIdx 0) := by
              rw [← Array.foldl_toList]; simp
            obtain ⟨cc, h1, h2⟩ := ih is us vals (splice z off u.cells) z' (List.foldl (fun cs (x : Value × Nat) => cs.setIfInBounds (off + x.2) x.1) zc (v.cells.toList.zipIdx 0)) hl (by simpa using hi) (by simpa using hv)
              (fun j i p h h' => hp (j + 1) i p (by simpa using h) (by simpa using h')) (fun j u v h h' => hus (j + 1) u v (by simpa using h) (by simpa using h'))
              ⟨by rw [f1, hz.1, splice_length (by omega)], fun j x hx => by
                have hjl : j < zc.size := by have := (List.getElem?_eq_some_iff.1 hx).1; rw [splice_length (by omega)] at this; rw [hz.1]; exact this
                rw [f2 j hjl]
                rw [splice_get (by omega)] at hx
                simp only [Nat.add_zero, Array.length_toList, hvs]
                by_cases ha : j < off
                · rw [if_pos ha] at hx
                  rw [if_neg (by omega)]
                  exact hz.2 j x hx
                · rw [if_neg ha] at hx
                  by_cases hb : j < off + n
                  · rw [hn, if_pos hb] at hx
                    rw [if_pos ⟨by omega, hb⟩]
                    obtain ⟨c, k1, k2, k3⟩ := huv.2 _ x hx
                    exact ⟨c, by simpa using k1, k2, k3⟩
                  · rw [hn, if_neg hb] at hx
                    rw [if_neg (by omega)]
                    exact hz.2 j x hx⟩
            refine ⟨cc, ?_, h2⟩
            simp only [List.zip_cons_cons, Instr.fill, hpl, hbad]
            rw [hfold]
            exact h1
          · cases hl

/-- The cells of literals that are laid side by side. -/
theorem fill_row (sz : Nat) : ∀ (vals : List Value) (s : Nat) (cs : Array Value), (s + vals.length) * sz ≤ cs.size → (∀ v ∈ vals, v.cells.size = sz) →
    ∃ cc, Instr.fill (fun i => some (i * sz, sz)) cs ((List.range' s vals.length).zip vals) = some cc ∧ cc.size = cs.size ∧ (∀ m, m < s * sz → cc[m]? = cs[m]?) ∧
      ∀ (j t : Nat) v, vals[j]? = some v → t < sz → cc[(s + j) * sz + t]? = v.cells[t]? := by
  intro vals
  induction vals with
  | nil => intro s cs _ _; exact ⟨cs, by simp [Instr.fill], rfl, fun _ _ => rfl, fun j t v h => by simp at h⟩
  | cons v vals ih =>
    intro s cs hle hsz
    have hv := hsz v (by simp)
    have h1 : s * sz + sz ≤ cs.size := by
      have : (s + 1) * sz ≤ (s + (v :: vals).length) * sz := Nat.mul_le_mul_right _ (by simp)
      rw [Nat.succ_mul] at this; omega
    obtain ⟨f1, f2⟩ := foldl_set v.cells.toList 0 (s * sz) cs
    have hfold : Array.foldl (fun cs (x : Value × Nat) => cs.setIfInBounds (s * sz + x.2) x.1) cs v.cells.zipIdx = List.foldl (fun cs (x : Value × Nat) => cs.setIfInBounds (s * sz + x.2) x.1) cs (v.cells.toList.zipIdx 0) := by
      rw [← Array.foldl_toList]; simp
    obtain ⟨cc, g1, g2, g3, g4⟩ := ih (s + 1) (List.foldl (fun cs (x : Value × Nat) => cs.setIfInBounds (s * sz + x.2) x.1) cs (v.cells.toList.zipIdx 0)) (by rw [f1]; simp at hle; rw [show s + 1 + vals.length = s + (vals.length + 1) by omega]; exact hle) (fun x hx => hsz x (by simp [hx]))
    have hbad : ¬ ((v.cells.size ≠ sz || s * sz + v.cells.size > cs.size) = true) := by simp [hv]; omega
    refine ⟨cc, ?_, by rw [g2, f1], fun m hm => ?_, fun j t x hx ht => ?_⟩
    · simp only [List.length_cons, List.range'_succ, List.zip_cons_cons, Instr.fill, hbad]
      rw [hfold]
      exact g1
    · rw [g3 m (by rw [Nat.succ_mul]; omega), f2 m (by omega), if_neg (by omega)]
    · cases j with
      | zero =>
        simp at hx; subst hx
        rw [Nat.add_zero, g3 _ (by rw [Nat.succ_mul]; omega), f2 _ (by omega), if_pos ⟨by omega, by simp [hv]; omega⟩]
        simp
      | succ j =>
        have := g4 j t x (by simpa using hx) ht
        rw [show s + (j + 1) = s + 1 + j by omega]
        exact this

theorem rowOf_get {k : K} : ∀ {us : List (AV K El)} {xs : List (El k)}, rowOf S k us = some xs → xs.length = us.length ∧ ∀ (j : Nat) u x, us[j]? = some u → xs[j]? = some x → S.unc k u.cells = some x := by
  intro us
  induction us with
  | nil => intro xs h; simp [rowOf] at h; subst h; exact ⟨rfl, fun j u x h => by simp at h⟩
  | cons a l ih =>
    intro xs h
    simp only [rowOf] at h
    split at h
    · rename_i y ys hy hys
      simp at h
      subst h
      obtain ⟨h1, h2⟩ := ih hys
      refine ⟨by simp [h1], fun j u x hu hx => ?_⟩
      cases j with
      | zero => simp at hu hx; subst hu; subst hx; exact hy
      | succ j => exact h2 j u x (by simpa using hu) (by simpa using hx)
    · cases h

/-! ### Equality of plain data -/
def plainF (P : Program) (T : TypeId → Option (List CK)) : List Field → List CK → Option (List CK)
  | [], acc => some acc
  | f :: fs, acc => match T f.type, P.info? f.type with
    | some ks, some i => if f.name ≠ "_" ∧ f.offset = acc.length ∧ i.size = ks.length then plainF P T fs (acc ++ ks) else none
    | _, _ => none

/-- The cells of a type of whole numbers, bools, strings, and structs of these. -/
def plainT (P : Program) : Nat → TypeId → Option (List CK)
  | 0, _ => none
  | d + 1, t => match P.underlying t with
    | some .bool => some [.b]
    | some (.int _) => some [.i]
    | some .string => some [.s]
    | some (.struct fs) => if P.stoodInHeld t then none else plainF P (plainT P d) fs.toList []
    | some (.array n e) => match plainT P d e, P.info? e with
      | some ks, some i => if i.size = ks.length then some (List.replicate n ks).flatten else none
      | _, _ => none
    | _ => none

theorem eqs_split : ∀ (n : Nat) {l m : List (AV K El)} {b : Bool}, eqs l m = some b → ∃ b1 b2, eqs (l.take n) (m.take n) = some b1 ∧ eqs (l.drop n) (m.drop n) = some b2 ∧ b = (b1 && b2)
  | 0, l, m, b, h => ⟨true, b, by simp [eqs], by simpa using h, by simp⟩
  | n + 1, [], [], b, h => by simp [eqs] at h; subst h; exact ⟨true, true, by simp [eqs], by simp [eqs], rfl⟩
  | n + 1, [], _ :: _, b, h => by simp [eqs] at h
  | n + 1, _ :: _, [], b, h => by simp [eqs] at h
  | n + 1, x :: l, y :: m, b, h => by
    simp only [eqs] at h
    split at h
    · rename_i p q hp hq
      obtain ⟨b1, b2, h1, h2, h3⟩ := eqs_split n hq
      simp at h
      refine ⟨p && b1, b2, by simp [eqs, hp, h1], by simpa using h2, by rw [← h, h3, Bool.and_assoc]⟩
    · cases h

theorem kds_append : ∀ {ks ks' : List CK} {us : List (AV K El)}, kds (ks ++ ks') us = true → kds ks (us.take ks.length) = true ∧ kds ks' (us.drop ks.length) = true
  | [], ks', us, h => by simpa [kds] using h
  | c :: ks, ks', [], h => by simp [kds] at h
  | c :: ks, ks', u :: us, h => by
    simp only [List.cons_append, kds, Bool.and_eq_true] at h
    obtain ⟨h1, h2⟩ := kds_append h.2
    simp [kds, h.1, h1, h2]

theorem CellsR.sub {E : Env} {w : World} {us : List (AV K El)} {cs : Array Value} (h : CellsR S E w us cs) (off n : Nat) : CellsR S E w ((us.drop off).take n) (cs.extract off (off + n)) := by
  refine ⟨by simp [h.1]; omega, fun j u hu => ?_⟩
  have hj : j < n := by have := (List.getElem?_eq_some_iff.1 hu).1; simp at this; omega
  rw [List.getElem?_take_of_lt hj, List.getElem?_drop] at hu
  obtain ⟨c, h1, h2, h3⟩ := h.2 _ u hu
  refine ⟨c, ?_, h2, h3⟩
  have hlt := (Array.getElem?_eq_some_iff.1 h1).1
  rw [Array.getElem?_extract]
  rw [if_pos (by omega)]
  exact h1

theorem eq1_sound {P : Program} {E : Env} {w : World} {u v : AV K El} {x y : Value} {b : Bool} (h : eq1 u v = some b) (hx : VR S E w u x) (hy : VR S E w v y) {t : TypeId} {d : Nat} {c : CK}
    (ht : (c = .b ∧ P.underlying t = some .bool) ∨ (c = .i ∧ ∃ k, P.underlying t = some (.int k)) ∨ (c = .s ∧ P.underlying t = some .string)) (hc : kd1 c u = true) :
    (Op.equalIn (d + 1) t x y).run P w = .ok b w := by
  cases hx <;> cases hy <;> simp [eq1] at h
  · subst h
    rcases ht with ⟨rfl, ht⟩ | ⟨rfl, _⟩ | ⟨rfl, _⟩
    · exact run_equalIn_bool' w d t _ _ ht
    · simp [kd1] at hc
    · simp [kd1] at hc
  · obtain ⟨rfl, rfl⟩ := h
    rcases ht with ⟨rfl, _⟩ | ⟨rfl, k', ht⟩ | ⟨rfl, _⟩
    · simp [kd1] at hc
    · exact run_equalIn_int w d t _ k' _ _ ht
    · simp [kd1] at hc
  · subst h
    rcases ht with ⟨rfl, _⟩ | ⟨rfl, _⟩ | ⟨rfl, ht⟩
    · simp [kd1] at hc
    · simp [kd1] at hc
    · exact run_equalIn_string w d t _ _ ht

theorem plainF_prefix {P : Program} {T : TypeId → Option (List CK)} : ∀ {fs : List Field} {acc ks : List CK}, plainF P T fs acc = some ks → ∃ r, ks = acc ++ r
  | [], acc, ks, h => by simp [plainF] at h; subst h; exact ⟨[], by simp⟩
  | f :: fs, acc, ks, h => by
    simp only [plainF] at h
    split at h
    · split at h
      · obtain ⟨r, hr⟩ := plainF_prefix h
        rename_i ks' _ _ _ _
        exact ⟨ks' ++ r, by rw [hr, List.append_assoc]⟩
      · cases h
    · cases h

theorem eqF_sound {P : Program} {E : Env} {w : World} (T : TypeId → Option (List CK)) (D : Nat)
    (hT : ∀ t ks, T t = some ks → (P.info? t).map (·.size) = some ks.length → ∀ (us vs : List (AV K El)) (xs ys : Array Value) (off : Nat) (b : Bool), CellsR S E w us xs → CellsR S E w vs ys → off + ks.length ≤ us.length → us.length = vs.length →
      kds ks ((us.drop off).take ks.length) = true → eqs ((us.drop off).take ks.length) ((vs.drop off).take ks.length) = some b →
      ∃ x y, (part t xs off).run P w = .ok x w ∧ (part t ys off).run P w = .ok y w ∧ (Op.equalIn D t x y).run P w = .ok b w)
    (us vs : List (AV K El)) (xs ys : Array Value) (hx : CellsR S E w us xs) (hy : CellsR S E w vs ys) (hl : us.length = vs.length) :
    ∀ (fs : List Field) (acc ks : List CK) (b : Bool), plainF P T fs acc = some ks → us.length = ks.length → kds ks us = true → eqs (us.drop acc.length) (vs.drop acc.length) = some b → (Op.eqFields D xs ys fs).run P w = .ok b w
  | [], acc, ks, b, hF, hlen, hk, he => by
    simp [plainF] at hF
    subst hF
    rw [List.drop_eq_nil_of_le (by omega), List.drop_eq_nil_of_le (by omega)] at he
    simp [eqs] at he
    subst he
    simp [Op.eqFields]
  | f :: fs, acc, ks, b, hF, hlen, hk, he => by
    have hF0 := hF
    simp only [plainF] at hF
    split at hF
    · rename_i ks' i hks hi
      split at hF
      · rename_i hc
        obtain ⟨hname, hoff, hsz⟩ := hc
        obtain ⟨r, hr⟩ := plainF_prefix hF
        obtain ⟨b1, b2, h1, h2, h3⟩ := eqs_split ks'.length he
        rw [List.drop_drop, List.drop_drop] at h2
        have hkk : kds ks' ((us.drop acc.length).take ks'.length) = true := by
          rw [hr, List.append_assoc] at hk
          exact (kds_append (kds_append hk).2).1
        have hle : acc.length + ks'.length ≤ us.length := by rw [hlen, hr]; simp
        obtain ⟨x, y, p1, p2, p3⟩ := hT f.type ks' hks (by rw [hi]; simp [hsz]) us vs xs ys acc.length b1 hx hy hle hl hkk h1
        have ih := eqF_sound T D hT us vs xs ys hx hy hl fs (acc ++ ks') ks b2 hF hlen hk (by simpa using h2)
        rw [hoff.symm] at p1 p2
        simp only [Op.eqFields, Sem.run_ite, Sem.run_bind, p1, p2, p3, Result.andThen_ok, ih]
        rw [if_pos hname]
        cases b1 <;> simp [h3]
      · cases hF
    · cases hF

theorem eqA_sound {P : Program} {E : Env} {w : World} (D : Nat) (e : TypeId) (ks : List CK)
    (hT : ∀ (us vs : List (AV K El)) (xs ys : Array Value) (off : Nat) (b : Bool), CellsR S E w us xs → CellsR S E w vs ys → off + ks.length ≤ us.length → us.length = vs.length →
      kds ks ((us.drop off).take ks.length) = true → eqs ((us.drop off).take ks.length) ((vs.drop off).take ks.length) = some b →
      ∃ x y, (part e xs off).run P w = .ok x w ∧ (part e ys off).run P w = .ok y w ∧ (Op.equalIn D e x y).run P w = .ok b w)
    (us vs : List (AV K El)) (xs ys : Array Value) (hx : CellsR S E w us xs) (hy : CellsR S E w vs ys) (hl : us.length = vs.length) :
    ∀ (m j : Nat) (b : Bool), us.length = (j + m) * ks.length → kds (List.replicate m ks).flatten (us.drop (j * ks.length)) = true → eqs (us.drop (j * ks.length)) (vs.drop (j * ks.length)) = some b →
      (Op.eqItems D e ks.length xs ys (List.range' j m)).run P w = .ok b w
  | 0, j, b, hlen, _, he => by
    rw [Nat.add_zero] at hlen
    rw [List.drop_eq_nil_of_le (by omega), List.drop_eq_nil_of_le (by omega)] at he
    simp [eqs] at he
    subst he
    simp [Op.eqItems]
  | m + 1, j, b, hlen, hk, he => by
    obtain ⟨b1, b2, h1, h2, h3⟩ := eqs_split ks.length he
    rw [List.drop_drop, List.drop_drop, ← Nat.succ_mul] at h2
    have hle : j * ks.length + ks.length ≤ us.length := by
      rw [hlen, ← Nat.succ_mul]
      exact Nat.mul_le_mul_right _ (by omega)
    rw [List.replicate_succ, List.flatten_cons] at hk
    obtain ⟨hk1, hk2⟩ := kds_append hk
    rw [List.drop_drop, ← Nat.succ_mul] at hk2
    obtain ⟨x, y, p1, p2, p3⟩ := hT us vs xs ys (j * ks.length) b1 hx hy hle hl hk1 h1
    have ih := eqA_sound D e ks hT us vs xs ys hx hy hl m (j + 1) b2 (by rw [hlen]; congr 1; omega) hk2 h2
    rw [List.range'_succ]
    simp only [Op.eqItems, Sem.run_bind, p1, p2, p3, Result.andThen_ok]
    cases b1
    · simp [h3]
    · simpa [h3] using ih

theorem eqT_sound {P : Program} {E : Env} {w : World} : ∀ (d : Nat) (t : TypeId) (ks : List CK), plainT P d t = some ks → (P.info? t).map (·.size) = some ks.length → ∀ (D : Nat), d ≤ D →
    ∀ (us vs : List (AV K El)) (xs ys : Array Value) (off : Nat) (b : Bool), CellsR S E w us xs → CellsR S E w vs ys → off + ks.length ≤ us.length → us.length = vs.length →
      kds ks ((us.drop off).take ks.length) = true → eqs ((us.drop off).take ks.length) ((vs.drop off).take ks.length) = some b →
      ∃ x y, (part t xs off).run P w = .ok x w ∧ (part t ys off).run P w = .ok y w ∧ (Op.equalIn D t x y).run P w = .ok b w
  | 0, t, ks, h => by simp [plainT] at h
  | d + 1, t, ks, h => by
    intro hsz D hD us vs xs ys off b hx hy hle hl hk he
    obtain ⟨D, rfl⟩ : ∃ D', D = D' + 1 := ⟨D - 1, by omega⟩
    have scalar : ∀ c : CK, ks = [c] → ((c = .b ∧ P.underlying t = some .bool) ∨ (c = .i ∧ ∃ k, P.underlying t = some (.int k)) ∨ (c = .s ∧ P.underlying t = some .string)) →
        ∃ x y, (part t xs off).run P w = .ok x w ∧ (part t ys off).run P w = .ok y w ∧ (Op.equalIn (D + 1) t x y).run P w = .ok b w := by
      intro c hc ht
      subst hc
      simp at hle
      have hu : (us.drop off).take [c].length = [us[off]] := by
        show (us.drop off).take 1 = _
        rw [List.drop_eq_getElem_cons (by omega)]; rfl
      have hv : (vs.drop off).take [c].length = [vs[off]] := by
        show (vs.drop off).take 1 = _
        rw [List.drop_eq_getElem_cons (by omega)]; rfl
      rw [hu, hv] at he
      rw [hu] at hk
      obtain ⟨x, x1, x2, x3⟩ := hx.2 off us[off] (List.getElem?_eq_getElem _)
      obtain ⟨y, y1, y2, y3⟩ := hy.2 off vs[off] (List.getElem?_eq_getElem (by omega))
      simp only [eqs] at he
      cases hq : eq1 us[off] vs[off] with
      | none => simp [hq] at he
      | some b' =>
        simp [hq] at he
        subst he
        simp [kds] at hk
        have hag : (isAgg t).run P w = .ok false w := by
          rcases ht with ⟨_, ht⟩ | ⟨_, k, ht⟩ | ⟨_, ht⟩ <;> simp [isAgg, run_underlying ht]
        refine ⟨x, y, by simp [part, hag, x1], by simp [part, hag, y1], eq1_sound hq x3 y3 ht hk⟩
    simp only [plainT] at h
    split at h
    · rename_i hu; simp at h; exact scalar .b h.symm (.inl ⟨rfl, hu⟩)
    · rename_i k hu; simp at h; exact scalar .i h.symm (.inr (.inl ⟨rfl, k, hu⟩))
    · rename_i hu; simp at h; exact scalar .s h.symm (.inr (.inr ⟨rfl, hu⟩))
    · rename_i fs hu
      split at h
      · cases h
      · rename_i hst
        have hfs : P.fieldsOf t = fs := by simp [Program.fieldsOf, hu]
        have hag : (isAgg t).run P w = .ok true w := by simp [isAgg, run_underlying hu]
        have hso : (sizeOf t).run P w = .ok ks.length w := by
          cases hi : P.info? t with
          | none => rw [hi] at hsz; simp at hsz
          | some i => rw [hi] at hsz; simp at hsz; simp [sizeOf, typeInfo, hi, hsz]
        refine ⟨.agg (xs.extract off (off + ks.length)), .agg (ys.extract off (off + ks.length)), by simp [part, hag, hso], by simp [part, hag, hso], ?_⟩
        rw [run_equalIn_struct w D t _ _ (by rw [hfs]; exact hu) (by simpa using hst), hfs]
        refine eqF_sound (plainT P d) D (fun t' ks' h1 h2 => eqT_sound d t' ks' h1 h2 D (by omega)) _ _ _ _ (hx.sub off ks.length) (hy.sub off ks.length) (by simp; omega) fs.toList [] ks b h (by simp; omega) hk (by simpa using he)
    · rename_i n e hu
      split at h
      · rename_i ks' i hks hi
        split at h
        · rename_i hc
          have hkk : (List.replicate n ks').flatten = ks := by simpa using h
          have hag : (isAgg t).run P w = .ok true w := by simp [isAgg, run_underlying hu]
          have hso : (sizeOf t).run P w = .ok ks.length w := by
            cases hi : P.info? t with
            | none => rw [hi] at hsz; simp at hsz
            | some i => rw [hi] at hsz; simp at hsz; simp [sizeOf, typeInfo, hi, hsz]
          have hce : P.cellsOf e = ks'.length := by simp [Program.cellsOf, hi, hc]
          have hkl : ks.length = n * ks'.length := by rw [← hkk]; simp
          refine ⟨.agg (xs.extract off (off + ks.length)), .agg (ys.extract off (off + ks.length)), by simp [part, hag, hso], by simp [part, hag, hso], ?_⟩
          rw [run_equalIn_array w D _ _ hu hi, hce, List.range_eq_range']
          exact eqA_sound D e ks' (fun us vs xs ys off b h1 h2 h3 h4 h5 h6 => eqT_sound d e ks' hks (by rw [hi]; simp [hc]) D (by omega) us vs xs ys off b h1 h2 h3 h4 h5 h6) _ _ _ _ (hx.sub off ks.length) (hy.sub off ks.length) (by simp; omega) n 0 b
            (by simp; omega) (by rw [hkk, Nat.zero_mul, List.drop_zero]; exact hk) (by rw [Nat.zero_mul, List.drop_zero, List.drop_zero]; exact he)
        · cases h
      · cases h
    · cases h

end Sh
end Go.Proofs.YtomdfaelgcefdaaGreatDoor
