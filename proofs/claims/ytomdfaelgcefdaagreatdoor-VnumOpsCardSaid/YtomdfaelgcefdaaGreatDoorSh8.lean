/- The shadow machine, part 8: copy, make, cutting, parts laid into a value. -/
import Derived.Test.YtomdfaelgcefdaaGreatDoorSh7
namespace Go.Proofs.YtomdfaelgcefdaaGreatDoor
open Go
namespace Sh
variable {K : Type} {El : K → Type} {S : Seat K El}

section
variable (ok : Ok S) {E E' : Env} {H : Heap K El} {w w' : World} {k : K}

/-! ### copy -/
include ok in
theorem cpy_sound (h : Emb S E H w) {dT sT ty : TypeId} (ht : S.P.underlying dT = some (.slice (S.ty k))) {d : AV K El} {ys : List (El k)} {kt : AV K El → Heap K El → Prop} (ha : cpy S H k d ys kt)
    {v : Value} {cs : List Value} (hs : SliceOf S E w k ys v cs) {dv : Value} (hdv : VR S E w d dv) :
    ∃ r H1 w1 rv, kt r H1 ∧ (Builtin.copy_ #[dT, sT] ty #[dv, v]).run S.P w = .ok rv w1 ∧ Emb S E H1 w1 ∧ Ext E w E w1 ∧ VR S E w1 r rv := by
  obtain ⟨A, xcap, rfl, hcells⟩ := hs.val
  obtain ⟨ti, z, hti, htsz, hz, hzs, hby, hzz⟩ := ok.info k
  have hpos := ok.pos k
  have hfirst : ∀ n, n ≤ ys.length → (Builtin.firstCells (S.size k) n (.slice A ys.length xcap)).run S.P w = .ok (cs.take (n * S.size k)).toArray w := by
    intro n hn
    by_cases h0 : n = 0
    · subst h0
      cases A <;> simp [Builtin.firstCells, loadCells, loadCellsFrom]
    · have hcl : 0 < cs.length := by rw [hs.cells.len]; exact Nat.mul_pos (by omega) hpos
      obtain ⟨b', o', rfl, _⟩ := hcells 0 cs[0] (List.getElem?_eq_getElem hcl)
      have hmul : n * S.size k ≤ ys.length * S.size k := Nat.mul_le_mul_right _ hn
      exact run_firstCells_some (P := S.P) w (S.size k) n ⟨b', o', none⟩ ys.length xcap (cs.take (n * S.size k)) (by rw [List.length_take, hs.cells.len]; omega) (fun j c hj => by
        have hjl := (List.getElem?_eq_some_iff.1 hj).1
        rw [List.getElem?_take_of_lt (by simp at hjl; omega)] at hj
        obtain ⟨b2, o2, he, hc⟩ := hcells j c hj
        simp only [Option.some.injEq, Addr.mk.injEq] at he
        obtain ⟨rfl, rfl, _⟩ := he
        rw [add_lit]; exact hc)
  cases hdv with
  | nils =>
    refine ⟨_, H, w, goInt 0, ha, ?_, h, Ext.refl, .int _ _⟩
    have := hfirst 0 (Nat.zero_le _)
    simp at this
    simp [Builtin.copy_, run_underlying ht, Builtin.lenOf, sizeOf, typeInfo, hti, htsz, this]
  | ownNil hi =>
    rename_i k' i c
    simp only [cpy] at ha
    split at ha
    · rename_i kr xs hx
      split at ha
      · rename_i xs' hy
        obtain ⟨rfl, rfl⟩ := castL_some hy
        obtain ⟨rfl, hle, hk⟩ := ha
        have hxe : xs = [] := h.obj i _ _ hx hi
        subst hxe
        have hH : H.set i (.row kr ([].take 0 ++ ys.take 0 ++ [].drop (0 + min ys.length 0))) = H := by
          simp only [List.take_zero, List.drop_nil, List.append_nil]
          exact List.ext_getElem? fun j => by
            by_cases hj : i = j
            · subst hj; rw [List.getElem?_set_self (List.getElem?_eq_some_iff.1 hx).1, hx]
            · rw [List.getElem?_set_ne hj]
        refine ⟨_, H.set i (.row kr ([].take 0 ++ ys.take 0 ++ [].drop (0 + min ys.length 0))), w, goInt 0, hk, ?_, ?_, Ext.refl, by simpa [goInt] using VR.int _ _⟩
        · have := hfirst 0 (Nat.zero_le _)
          simp at this
          simp [Builtin.copy_, run_underlying ht, Builtin.lenOf, sizeOf, typeInfo, hti, htsz, this]
        · rw [hH]; exact h
      · exact ha.elim
    · exact ha.elim
  | ownGone hi _ =>
    rename_i k' i lo len c _
    simp only [cpy] at ha
    split at ha
    · rename_i kr xs hx; exact (h.obj i _ _ hx hi : OR S E w (.row kr xs) .gone).elim
    · exact ha.elim
  | own hi hfu hw hle hm ho =>
    rename_i k' i lo len c b o cap
    simp only [cpy] at ha
    split at ha
    · rename_i kr xs hx
      split at ha
      · rename_i xs' hy
        obtain ⟨rfl, rfl⟩ := castL_some hy
        obtain ⟨rfl, hlen, hk⟩ := ha
        replace hlen : lo + len ≤ xs.length := hlen
        obtain ⟨cc, hb, hsz, hcs⟩ := row_cells ok (h.obj i _ _ hx hi)
        have hn : min ys.length len ≤ ys.length := Nat.min_le_left _ _
        have hf := hfirst (min ys.length len) hn
        generalize hnn : min ys.length len = n at *
        have hdsl : (cs.take (n * S.size kr)).length = n * S.size kr := by
          rw [List.length_take, hs.cells.len]
          have hmul : n * S.size kr ≤ ys.length * S.size kr := Nat.mul_le_mul_right _ hn
          omega
        have hds : CellsOf S E w kr (ys.take n) (cs.take (n * S.size kr)) := hs.cells.take ok n
        generalize hdd : cs.take (n * S.size kr) = ds at *
        have hmul : lo * S.size kr + n * S.size kr ≤ xs.length * S.size kr := by rw [← Nat.add_mul]; exact Nat.mul_le_mul_right _ (by omega)
        have hst : (storeCells ⟨b, o, none⟩ ds).run S.P w = .ok () (w.setRow b (cc.toList.take (lo * S.size kr) ++ ds ++ cc.toList.drop (lo * S.size kr + ds.length)).toArray) := by
          by_cases h0 : n = 0
          · subst h0
            have hd0 : ds = [] := List.eq_nil_of_length_eq_zero (by rw [hdsl]; simp)
            subst hd0
            simp only [storeCells, List.append_nil, List.length_nil, Nat.add_zero, List.take_append_drop, Array.toArray_toList]
            rw [setRow_self w b cc _ _ hb]
            rfl
          · have ho' : o = lo * S.size kr := by
              rcases ho with ho | ⟨_, h1, _⟩
              · exact ho
              · omega
            subst ho'
            have := run_storeCells_at S.P b (lo * S.size kr) (S.ty kr) ds 0 cc w hb (by simp; omega) (hds.one ok)
            simpa using this
        generalize hnew : (cc.toList.take (lo * S.size kr) ++ ds ++ cc.toList.drop (lo * S.size kr + ds.length)).toArray = cc' at hst
        have hs' : cc'.size = cc.size := by rw [← hnew]; simp; omega
        have hxt := ext_setRow (E := E) hi hb hs'
        have hall : CellsOf S E w kr (xs.take lo ++ ys.take n ++ xs.drop (lo + n)) (((cc.toList.take (xs.length * S.size kr)).take (lo * S.size kr) ++ ds) ++ (cc.toList.take (xs.length * S.size kr)).drop ((lo + n) * S.size kr)) :=
          ((hcs.take ok lo).append ok hds).append ok (hcs.drop (lo + n))
        have hyt : ys.take len = ys.take n := by
          rw [← hnn]
          rcases Nat.le_total ys.length len with hle | hle
          · rw [Nat.min_eq_left hle, List.take_of_length_le hle, List.take_of_length_le (Nat.le_refl _)]
          · rw [Nat.min_eq_right hle]
        rw [hyt] at hk
        have hxl : (xs.take lo ++ ys.take n ++ xs.drop (lo + n)).length = xs.length := by simp; omega
        have hor : OR S E (w.setRow b cc') (.row kr (xs.take lo ++ ys.take n ++ xs.drop (lo + n))) (.blk b) := by
          refine row_of_cells (hall.mono ok hxt) (setRow_heap w b cc cc' _ _ hb) ?_
          rw [hxl, ← hnew]
          apply List.ext_getElem?
          intro m
          have hsp := splice_get (vs := cc.toList) (us := ds) (off := lo * S.size kr) (j := m) (by simp; omega)
          simp only [splice] at hsp
          by_cases hmx : m < xs.length * S.size kr
          · rw [List.getElem?_take_of_lt hmx]
            simp only []
            rw [hsp]
            by_cases h1 : m < lo * S.size kr
            · simp only [h1, if_true]
              rw [List.append_assoc, List.getElem?_append_left (by simp; omega), List.getElem?_take_of_lt h1, List.getElem?_take_of_lt hmx]
            · by_cases h2 : m < lo * S.size kr + ds.length
              · simp only [h1, h2, if_true, if_false]
                have hl1 : ((cc.toList.take (xs.length * S.size kr)).take (lo * S.size kr)).length = lo * S.size kr := by simp; omega
                rw [List.append_assoc, List.getElem?_append_right (by omega), hl1, List.getElem?_append_left (by omega)]
              · simp only [h1, h2, if_false]
                have hl1 : ((cc.toList.take (xs.length * S.size kr)).take (lo * S.size kr) ++ ds).length = (lo + n) * S.size kr := by simp [Nat.add_mul]; omega
                rw [List.getElem?_append_right (by rw [hl1, Nat.add_mul]; omega), hl1, List.getElem?_drop, Nat.add_mul]
                rw [show lo * S.size kr + n * S.size kr + (m - (lo * S.size kr + n * S.size kr)) = m by omega, List.getElem?_take_of_lt hmx]
          · rw [List.getElem?_eq_none (by simp; omega), List.getElem?_eq_none]
            simp only [List.length_append, List.length_take, List.length_drop, Array.length_toList, Nat.add_mul]
            omega
        refine ⟨_, _, _, goInt n, hk, ?_, emb_setRow ok h hi hb hs' hor, hxt, .int _ _⟩
        have hnm : Nat.min ys.length len = n := hnn
        simp [Builtin.copy_, run_underlying ht, Builtin.lenOf, sizeOf, typeInfo, hti, htsz, hnm, hf, hst]
      · exact ha.elim
    · exact ha.elim
  | _ => exact ha.elim

/-! ### make -/
include ok in
theorem make_sound (h : Emb S E H w) {t : TypeId} (ht : S.P.underlying t = some (.slice (S.ty k))) {l : Int} (h0 : 0 ≤ l) (hf : fits S k l.toNat) (kl kc : IntKind) :
    ∃ E1 w1 rv, (Instr.makeSlice t (.int kl l) (.int kc l)).run S.P w = .ok rv w1 ∧ Emb S E1 (H ++ [.row k (List.replicate l.toNat (S.zero k))]) w1 ∧ Ext E w E1 w1 ∧ VR S E1 w1 (.own k H.length 0 l.toNat .whole) rv := by
  obtain ⟨ti, z, hti, htsz, hz, hzs, hby, hzz⟩ := ok.info k
  have hpos := ok.pos k
  have hf1 := hf.1
  have hf2 := hf.2
  simp only [maxLen] at hf1
  have hb : (ti.bytes : Int) * l ≤ 281474976710656 := by
    rw [hby]
    have : ((l.toNat * S.bytes k : Nat) : Int) ≤ 140737488355328 := by omega
    rw [Int.natCast_mul, Int.toNat_of_nonneg h0, Int.mul_comm] at this
    omega
  have hrun := run_make (P := S.P) w t (S.ty k) ti z ht hti hz kl kc l l h0 (Int.le_refl _) hb (by omega)
  rw [htsz] at hrun
  have hcells : CellsOf S E w k (List.replicate l.toNat (S.zero k)) (madeCells z.cells (l.toNat * S.size k)).toList := by
    refine ⟨by simp [madeCells], fun j y hy t u hu => ?_⟩
    have hjl : j < l.toNat := by have := (List.getElem?_eq_some_iff.1 hy).1; simpa using this
    simp [hjl] at hy
    subst hy
    have htl : t < S.size k := by rw [← ok.enc_len k (S.zero k)]; exact (List.getElem?_eq_some_iff.1 hu).1
    have hm : (j + 1) * S.size k ≤ l.toNat * S.size k := Nat.mul_le_mul_right _ hjl
    rw [Nat.succ_mul] at hm
    have hlt : j * S.size k + t < l.toNat * S.size k := by omega
    have hmod : (j * S.size k + t) % z.cells.size = t := by rw [hzs, Nat.mul_comm, Nat.mul_add_mod, Nat.mod_eq_of_lt htl]
    have htz : t < z.cells.size := by omega
    refine ⟨z.cells[t], ?_, ?_⟩
    · simp [madeCells, hlt, hmod, getElem!_pos, htz]
    · -- a constant
      have hzz' : ∀ (l : List Value) (us : List (AV K El)), l.mapM constAV = some us → ∀ (j : Nat) v u, l[j]? = some v → us[j]? = some u → constAV v = some u := by
        intro l
        induction l with
        | nil => intro us _ j v u hv; simp at hv
        | cons a l ih =>
          intro us hus j v u hv hu
          simp only [List.mapM_cons, Option.bind_eq_bind, Option.pure_def] at hus
          cases ha : (constAV a : Option (AV K El)) with
          | none => simp [ha] at hus
          | some x =>
            cases hr : (l.mapM constAV : Option (List (AV K El))) with
            | none => simp [ha, hr] at hus
            | some us' =>
              simp [ha, hr] at hus
              subst hus
              cases j with
              | zero => simp at hv hu; subst hv; subst hu; exact ha
              | succ j => exact ih us' hr j v u (by simpa using hv) (by simpa using hu)
      have hcv := hzz' z.cells.toList _ hzz t z.cells[t] u (by simp [htz]) hu
      generalize z.cells[t] = c at hcv
      unfold constAV at hcv
      split at hcv <;> simp at hcv <;> first | subst hcv | (obtain ⟨hone, hcv⟩ := hcv; subst hcv)
      · exact .bool _
      · exact .int _ _
      · exact .str _
      · exact .nilp
      · exact .nils
      · exact .fn _
      · exact .nilfn
      · exact .nilmap
      · exact .cell _ hone
  obtain ⟨E1, h1, h2, h3⟩ := app_new ok h hcells (rest := #[]) (cap := l.toNat) (by simp) hf.1 (by simp [madeCells]) (w1 := w.alloc (.cells (madeCells z.cells (l.toNat * S.size k)) (S.ty k))) (by
    have he : (madeCells z.cells (l.toNat * S.size k)).toList.toArray ++ #[] = madeCells z.cells (l.toNat * S.size k) := by simp
    rw [he]; rfl) rfl rfl rfl
  refine ⟨E1, _, _, hrun, h1, h2, ?_⟩
  simpa using h3

end

theorem constAV_VR {v : Value} {u : AV K El} (hcv : constAV v = some u) (E : Env) (w : World) : VR S E w u v ∧ u.one = true := by
  unfold constAV at hcv
  split at hcv <;> simp at hcv <;> first | subst hcv | (obtain ⟨hone, hcv⟩ := hcv; subst hcv)
  · exact ⟨.bool _, rfl⟩
  · exact ⟨.int _ _, rfl⟩
  · exact ⟨.str _, rfl⟩
  · exact ⟨.nilp, rfl⟩
  · exact ⟨.nils, rfl⟩
  · exact ⟨.fn _, rfl⟩
  · exact ⟨.nilfn, rfl⟩
  · exact ⟨.nilmap, rfl⟩
  · exact ⟨.cell _ hone, rfl⟩

theorem mapM_const {l : List Value} : ∀ {us : List (AV K El)}, l.mapM constAV = some us → us.length = l.length ∧ ∀ (j : Nat) v u, l[j]? = some v → us[j]? = some u → constAV v = some u := by
  induction l with
  | nil => intro us h; simp at h; subst h; exact ⟨rfl, fun j v u hv => by simp at hv⟩
  | cons a l ih =>
    intro us hus
    simp only [List.mapM_cons, Option.bind_eq_bind, Option.pure_def] at hus
    cases ha : (constAV a : Option (AV K El)) with
    | none => simp [ha] at hus
    | some x =>
      cases hr : (l.mapM constAV : Option (List (AV K El))) with
      | none => simp [ha, hr] at hus
      | some us' =>
        simp [ha, hr] at hus
        subst hus
        obtain ⟨h1, h2⟩ := ih hr
        refine ⟨by simp [h1], fun j v u hv hu => ?_⟩
        cases j with
        | zero => simp at hv hu; subst hv; subst hu; exact ha
        | succ j => exact h2 j v u (by simpa using hv) (by simpa using hu)

theorem constV_VR {v : Value} {u : AV K El} (h : constV v = some u) (E : Env) (w : World) : VR2 S E w u v := by
  unfold constV at h
  split at h
  · rename_i cs
    cases hm : (cs.toList.mapM constAV : Option (List (AV K El))) with
    | none => rw [hm] at h; simp at h
    | some us =>
      rw [hm] at h; simp at h; subst h
      obtain ⟨h1, h2⟩ := mapM_const hm
      refine ⟨cs, rfl, by simpa using h1.symm, fun j u hu => ?_⟩
      have hj : j < cs.size := by have := (List.getElem?_eq_some_iff.1 hu).1; simp at h1; omega
      have := h2 j cs[j] u (by simp [hj]) hu
      obtain ⟨k1, k2⟩ := constAV_VR (S := S) this E w
      exact ⟨cs[j], by simp [hj], k2, k1⟩
  · obtain ⟨k1, k2⟩ := constAV_VR (S := S) h E w
    exact k1.one_of k2

end Sh
end Go.Proofs.YtomdfaelgcefdaaGreatDoor
