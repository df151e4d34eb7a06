/- The shadow machine, part 7: append, copy, make, cutting, laying parts. -/
import Derived.Test.YtomdfaelgcefdaaGreatDoorSh6
namespace Go.Proofs.YtomdfaelgcefdaaGreatDoor
open Go
namespace Sh
variable {K : Type} {El : K → Type} {S : Seat K El}

theorem grownCap_eq (w : World) (n old : Nat) (e : TypeId) : grownCap w.drew n old e = grownCap w.drew n old e := rfl

section
variable (ok : Ok S) {E E' : Env} {H : Heap K El} {w w' : World} {k : K}

theorem fits_maxLen {n : Nat} (h : fits S k n) : (n : Int) ≤ 9223372036854775807 := by
  have := h.1; simp only [maxLen] at this; omega

theorem size_grown (cs : List Value) (z : Array Value) (n cap sz : Nat) (hz : z.size = sz) (hl : cs.length = n * sz) (hc : n ≤ cap) :
    (cs.toArray ++ Builtin.zeroCells z (cap - n)).size = cap * sz := by
  simp [Builtin.zeroCells, hz, hl, ← Nat.add_mul]
  congr 1; omega

include ok in
/-- `append` to a nil slice. -/
theorem app_nil (h : Emb S E H w) {t ty : TypeId} (ht : S.P.underlying t = some (.slice (S.ty k))) {ys : List (El k)} {v : Value} {cs : List Value} (hs : SliceOf S E w k ys v cs) (hf : fits S k ys.length) :
    ∃ E1 w1 r, (Builtin.append_ #[t, t] ty #[.slice none 0 0, v]).run S.P w = .ok r w1 ∧ Emb S E1 (H ++ [.row k ys]) w1 ∧ Ext E w E1 w1 ∧ VR S E1 w1 (.own k H.length 0 ys.length .whole) r := by
  obtain ⟨A, cap, rfl, hcells⟩ := hs.val
  obtain ⟨i, z, hi, hsz, hz, hzs, hby, hzz⟩ := ok.info k
  have hpos := ok.pos k
  by_cases h0 : ys = []
  · subst h0
    refine ⟨⟨E.ρ ++ [.nil], E.F⟩, w, .slice none 0 0, ?_, emb_nil ok h k, ext_nil rfl rfl rfl rfl, .ownNil (by simp only []; rw [← h.len]; simp)⟩
    cases A <;> simp [Builtin.append_, run_underlying ht, sizeOf, typeInfo, hi, Builtin.lenOf, Builtin.firstCells, loadCells, loadCellsFrom]
  · have hl : 0 < ys.length := List.length_pos_iff.2 h0
    have hcl : 0 < cs.length := by rw [hs.cells.len]; exact Nat.mul_pos hl hpos
    obtain ⟨b, o, rfl, _⟩ := hcells 0 cs[0] (List.getElem?_eq_getElem hcl)
    have hr := run_append_nil (P := S.P) w t ty (S.ty k) i z ht hi hz ⟨b, o, none⟩ ys.length cap cs (by rw [hs.cells.len, hsz]) (fun j c hj => by
      obtain ⟨b', o', he, hc⟩ := hcells j c hj
      simp only [Option.some.injEq, Addr.mk.injEq] at he
      obtain ⟨rfl, rfl, _⟩ := he
      rw [add_lit]; exact hc) hl (fits_maxLen hf) (by rw [hby]; have := hf.2; omega)
    have hge := grownCap_ge w ys.length 0 (S.ty k)
    obtain ⟨E1, h1, h2, h3⟩ := app_new ok h hs.cells (rest := Builtin.zeroCells z.cells (grownCap w ys.length 0 (S.ty k) - ys.length)) hge (grownCap_le_maxLen w _ _ _ hf.1)
      (size_grown cs z.cells _ _ _ hzs hs.cells.len hge) (w1 := w.drew.alloc (.cells (cs.toArray ++ Builtin.zeroCells z.cells (grownCap w ys.length 0 (S.ty k) - ys.length)) (S.ty k))) rfl rfl rfl rfl
    exact ⟨E1, _, _, hr, h1, h2, h3⟩

include ok in
/-- `append` where a new array is made. -/
theorem app_grow (h : Emb S E H w) {t ty : TypeId} (ht : S.P.underlying t = some (.slice (S.ty k))) {zs ys : List (El k)} {v : Value} {cs ds : List Value} {b o cap : Nat}
    (hd : CellsOf S E w k zs ds) (hda : ∀ (j : Nat) c, ds[j]? = some c → w.cell? ⟨b, o + j, none⟩ = some c) (hs : SliceOf S E w k ys v cs) (hf : fits S k (zs.length + ys.length)) (hg : cap < zs.length + ys.length) :
    ∃ E1 w1 r, (Builtin.append_ #[t, t] ty #[.slice (some ⟨b, o, none⟩) zs.length cap, v]).run S.P w = .ok r w1 ∧ Emb S E1 (H ++ [.row k (zs ++ ys)]) w1 ∧ Ext E w E1 w1 ∧ VR S E1 w1 (.own k H.length 0 (zs.length + ys.length) .whole) r := by
  obtain ⟨A, xcap, rfl, hcells⟩ := hs.val
  obtain ⟨i, z, hi, hsz, hz, hzs, hby, hzz⟩ := ok.info k
  have hpos := ok.pos k
  have hge := grownCap_ge w (zs.length + ys.length) cap (S.ty k)
  have hfit := growslice_fits hg (show (zs.length + ys.length) * i.bytes ≤ 140737488355328 by rw [hby]; exact hf.2)
  have hall := hd.append ok hs.cells
  have hrun : (Builtin.append_ #[t, t] ty #[.slice (some ⟨b, o, none⟩) zs.length cap, .slice A ys.length xcap]).run S.P w =
      .ok (.slice (some ⟨w.heap.size, 0, none⟩) (zs.length + ys.length) (grownCap w (zs.length + ys.length) cap (S.ty k)))
        (w.drew.alloc (.cells ((ds ++ cs).toArray ++ Builtin.zeroCells z.cells (grownCap w (zs.length + ys.length) cap (S.ty k) - (zs.length + ys.length))) (S.ty k))) := by
    by_cases h0 : ys = []
    · subst h0
      have hn : ¬ (zs.length + 0 ≤ cap) := by simpa using hg
      have h63 := fits_maxLen hf
      have h63' : ¬ (9223372036854775807 < (zs.length : Int)) := by simp at h63; omega
      have hfit' : ¬ (281474976710656 < Builtin.nextslicecap zs.length cap * i.bytes) := by simp at hfit; omega
      have hcs : cs = [] := List.eq_nil_of_length_eq_zero (by rw [hs.cells.len]; simp)
      subst hcs
      have hfo := run_firstCells_some (P := S.P) w.drew i.size zs.length ⟨b, o, none⟩ zs.length cap ds (by rw [hd.len, hsz]) (fun j c hj => by rw [add_lit]; simpa using hda j c hj)
      have hn' : ¬ (zs.length ≤ cap) := by simpa using hg
      have hfe : (Builtin.firstCells i.size 0 (.slice A 0 xcap)).run S.P w.drew = .ok #[] w.drew := by cases A <;> simp [Builtin.firstCells, loadCells, loadCellsFrom]
      simp [Builtin.append_, run_underlying ht, sizeOf, typeInfo, zeroValue, hi, hz, Builtin.lenOf, hn', h63', hfit', Question.forced, hfo, hfe, newRow, grownCap]
    · have hl : 0 < ys.length := List.length_pos_iff.2 h0
      have hcl : 0 < cs.length := by rw [hs.cells.len]; exact Nat.mul_pos hl hpos
      obtain ⟨b', o', rfl, _⟩ := hcells 0 cs[0] (List.getElem?_eq_getElem hcl)
      have := run_append_grow (P := S.P) w t ty (S.ty k) i z ht hi hz ⟨b, o, none⟩ zs.length cap ds (by rw [hd.len, hsz]) (fun j c hj => by rw [add_lit]; exact hda j c hj)
        ⟨b', o', none⟩ ys.length xcap cs (by rw [hs.cells.len, hsz]) (fun j c hj => by
          obtain ⟨b2, o2, he, hc⟩ := hcells j c hj
          simp only [Option.some.injEq, Addr.mk.injEq] at he
          obtain ⟨rfl, rfl, _⟩ := he
          rw [add_lit]; exact hc) hg (fits_maxLen hf) hfit
      rw [this]
      congr 5
      apply Array.ext'
      simp
  obtain ⟨E1, h1, h2, h3⟩ := app_new ok h hall (rest := Builtin.zeroCells z.cells (grownCap w (zs.length + ys.length) cap (S.ty k) - (zs.length + ys.length))) (by rw [List.length_append]; exact hge) (grownCap_le_maxLen w _ _ _ hf.1)
    (size_grown (ds ++ cs) z.cells _ _ _ hzs (by rw [List.length_append, hd.len, hs.cells.len, ← Nat.add_mul]) hge) (w1 := w.drew.alloc (.cells ((ds ++ cs).toArray ++ Builtin.zeroCells z.cells (grownCap w (zs.length + ys.length) cap (S.ty k) - (zs.length + ys.length))) (S.ty k))) rfl rfl rfl rfl
  rw [List.length_append] at h3
  exact ⟨E1, _, _, hrun, h1, h2, h3⟩

include ok in
theorem app_sound (h : Emb S E H w) {t ty : TypeId} (ht : S.P.underlying t = some (.slice (S.ty k))) {s : AV K El} {ys : List (El k)} {kt : AV K El → Heap K El → Prop} (ha : app S H k s ys kt)
    {v : Value} {cs : List Value} (hs : SliceOf S E w k ys v cs) {sv : Value} (hsv : VR S E w s sv) :
    ∃ r H1 E1 w1 rv, kt r H1 ∧ (Builtin.append_ #[t, t] ty #[sv, v]).run S.P w = .ok rv w1 ∧ Emb S E1 H1 w1 ∧ Ext E w E1 w1 ∧ VR S E1 w1 r rv := by
  have hpos := ok.pos k
  cases hsv with
  | nils =>
    obtain ⟨hf, hk⟩ := ha
    obtain ⟨E1, w1, r, h1, h2, h3, h4⟩ := app_nil ok h ht (ty := ty) hs hf
    exact ⟨_, _, E1, w1, r, hk, h1, h2, h3, h4⟩
  | ownGone hi _ =>
    rename_i k' i lo len c _
    simp only [app] at ha
    split at ha
    · rename_i kr xs hx; exact (h.obj i _ _ hx hi : OR S E w (.row kr xs) .gone).elim
    · exact ha.elim
  | ownNil hi =>
    rename_i k' i c
    simp only [app] at ha
    split at ha
    · rename_i kr xs hx
      split at ha
      · rename_i xs' hy
        obtain ⟨rfl, rfl⟩ := castL_some hy
        obtain ⟨rfl, hle, hf, ha⟩ := ha
        have hxe : xs = [] := h.obj i _ _ hx hi
        subst hxe
        simp only [Nat.zero_add] at hf
        cases c with
        | whole =>
          obtain ⟨_, hk⟩ := ha
          have hdr := emb_drop ok h i
          have hxd := ext_drop (E := E) (w := w) i
          obtain ⟨E1, w1, r, h1, h2, h3, h4⟩ := app_nil ok hdr ht (ty := ty) ⟨hs.cells.mono ok hxd, hs.val⟩ hf
          refine ⟨_, _, E1, w1, r, hk, h1, by simpa using h2, hxd.trans h3, by simpa using h4⟩
        | full =>
          obtain ⟨_, hk⟩ := ha
          obtain ⟨E1, w1, r, h1, h2, h3, h4⟩ := app_nil ok h ht (ty := ty) hs hf
          exact ⟨_, _, E1, w1, r, hk, h1, by simpa using h2, h3, by simpa using h4⟩
        | unk => exact ha.elim
      · exact ha.elim
    · exact ha.elim
  | own hi hfu hw hle hm ho =>
    rename_i k' i lo len c b o cap
    simp only [app] at ha
    split at ha
    · rename_i kr xs hx
      split at ha
      · rename_i xs' hy
        obtain ⟨rfl, rfl⟩ := castL_some hy
        obtain ⟨rfl, hlen, hf, ha⟩ := ha
        replace hlen : lo + len ≤ xs.length := hlen
        obtain ⟨cc, hb, hsz, hcs⟩ := row_cells ok (h.obj i _ _ hx hi)
        have hbl : b < w.heap.size := h.lt i b hi
        cases c with
        | unk => exact ha.elim
        | full =>
          obtain ⟨hne, hk⟩ := ha
          have hcap := hfu rfl
          have hd := (hcs.drop lo).take ok len
          have hl : ((xs.drop lo).take len).length = len := by simp; omega
          have hyl : 0 < ys.length := List.length_pos_iff.2 hne
          obtain ⟨E1, w1, r, h1, h2, h3, h4⟩ := app_grow ok h ht (ty := ty) (b := b) (o := o) (cap := cap) hd (fun j c hj => by
            have hjl : j < len * S.size kr := by have := (List.getElem?_eq_some_iff.1 hj).1; simp at this; omega
            have ho' : o = lo * S.size kr := by
              rcases ho with ho | ⟨_, h0, _⟩
              · exact ho
              · rw [h0] at hjl; simp at hjl
            have hjl' := (List.getElem?_eq_some_iff.1 hj).1
            rw [List.getElem?_take_of_lt hjl, List.getElem?_drop, List.getElem?_take_of_lt (by simp at hjl'; omega)] at hj
            simp only [World.cell?, hb, ho']
            simpa using hj) hs (by rw [hl]; exact hf) (by rw [hl]; omega)
          rw [hl] at h1 h4
          exact ⟨_, _, E1, w1, r, hk, h1, h2, h3, h4⟩
        | whole =>
          obtain ⟨hlo, hk⟩ := ha
          subst hlo
          have ho' : o = 0 := by
            rcases ho with ho | ⟨h0, _⟩
            · simpa using ho
            · exact absurd rfl h0
          subst ho'
          obtain ⟨e, he⟩ := hw rfl
          have hcsz : cc.size = cap * S.size kr := by
            simp only [World.shape?, hb, Option.some.injEq, Prod.mk.injEq] at he
            simpa using he.2
          obtain ⟨A, xcap, rfl, hcells⟩ := hs.val
          obtain ⟨ti, z, hti, htsz, hz, hzs, hby, hzz⟩ := ok.info kr
          have hd := hcs.take ok len
          have htl : (xs.take len).length = len := by simp; omega
          have hmul : len * S.size kr ≤ xs.length * S.size kr := Nat.mul_le_mul_right _ (by omega)
          by_cases hroom : len + ys.length ≤ cap
          · -- in place
            have hyc : cs.length = ys.length * S.size kr := hs.cells.len
            have hfit : len * S.size kr + cs.length ≤ cc.size := by rw [hyc, ← Nat.add_mul, hcsz]; exact Nat.mul_le_mul_right _ hroom
            have hfit' : len * S.size kr + ys.length * S.size kr ≤ cc.size := by rw [← hyc]; exact hfit
            have hrun : (Builtin.append_ #[t, t] ty #[.slice (some ⟨b, 0, none⟩) len cap, .slice A ys.length xcap]).run S.P w =
                .ok (.slice (some ⟨b, 0, none⟩) (len + ys.length) cap) (w.setRow b (cc.toList.take (len * S.size kr) ++ cs ++ cc.toList.drop (len * S.size kr + cs.length)).toArray) := by
              by_cases h0 : ys = []
              · subst h0
                have hcs0 : cs = [] := List.eq_nil_of_length_eq_zero (by rw [hyc]; simp)
                subst hcs0
                have hroom' : len ≤ cap := by simpa using hroom
                have hself : w.setRow b (cc.toList.take (len * S.size kr) ++ [] ++ cc.toList.drop (len * S.size kr + 0)).toArray = w := by
                  simp only [List.append_nil, Nat.add_zero, List.take_append_drop, Array.toArray_toList]
                  exact setRow_self w b cc _ _ hb
                simp only [List.length_nil]
                rw [hself]
                cases A <;> simp [Builtin.append_, run_underlying ht, sizeOf, typeInfo, hti, Builtin.lenOf, hroom', Builtin.firstCells, loadCells, loadCellsFrom, storeCells]
              · have hl : 0 < ys.length := List.length_pos_iff.2 h0
                have hcl : 0 < cs.length := by rw [hyc]; exact Nat.mul_pos hl hpos
                obtain ⟨b', o', rfl, _⟩ := hcells 0 cs[0] (List.getElem?_eq_getElem hcl)
                have := run_append_room (P := S.P) w t ty (S.ty kr) ti ht hti b len cap cc hb ⟨b', o', none⟩ ys.length xcap cs (by rw [hyc, htsz]) (fun j c hj => by
                  obtain ⟨b2, o2, he, hc⟩ := hcells j c hj
                  simp only [Option.some.injEq, Addr.mk.injEq] at he
                  obtain ⟨rfl, rfl, _⟩ := he
                  rw [add_lit]; exact hc) (hs.cells.one ok) hroom (by rw [htsz]; exact hfit)
                rw [this, htsz]
            generalize hnew : (cc.toList.take (len * S.size kr) ++ cs ++ cc.toList.drop (len * S.size kr + cs.length)).toArray = cc' at hrun
            have hs' : cc'.size = cc.size := by rw [← hnew]; simp; omega
            have hxt := ext_setRow (E := E) hi hb hs'
            have hall : CellsOf S E (w.setRow b cc') kr (xs.take len ++ ys) (cc.toList.take (len * S.size kr) ++ cs) := by
              have h1 := (hd.append ok hs.cells).mono ok hxt
              rwa [List.take_take, Nat.min_eq_left hmul] at h1
            have hemb := emb_setRow ok h hi hb hs' (o := .row kr (xs.take len ++ ys)) (row_of_cells hall (setRow_heap w b cc cc' _ _ hb) (by
              rw [← hnew]
              simp only [List.length_append, htl, Nat.add_mul]
              rw [← hyc]
              have hlt : (cc.toList.take (len * S.size kr) ++ cs).length = len * S.size kr + cs.length := by simp; omega
              rw [← hlt]
              exact List.take_left ..))
            have hil : i < H.length := (List.getElem?_eq_some_iff.1 hx).1
            obtain ⟨hm1, hm2⟩ := emb_mv ok hemb hi (List.getElem?_set_self hil)
            refine ⟨_, _, _, _, _, hk, hrun, ?_, hxt.trans hm2, ?_⟩
            · simpa using hm1
            · refine .own (b := b) ?_ (by simp) (fun _ => ⟨S.ty kr, ?_⟩) hroom hm (.inl (by simp))
              · simp only [Env.mv]
                rw [← h.len, List.getElem?_append_right (by simp)]
                simp
              · simp only [World.shape?, setRow_heap w b cc cc' _ _ hb, hs', hcsz]; simp
          · -- a new array
            have hdr := emb_drop ok h i
            have hxd := ext_drop (E := E) (w := w) i
            obtain ⟨E1, w1, r, h1, h2, h3, h4⟩ := app_grow ok hdr ht (ty := ty) (b := b) (o := 0) (cap := cap) (hd.mono ok hxd) (fun j c hj => by
              have hjl : j < len * S.size kr := by have := (List.getElem?_eq_some_iff.1 hj).1; simp at this; omega
              rw [List.getElem?_take_of_lt hjl, List.getElem?_take_of_lt (by omega)] at hj
              simp only [World.cell?, hb]
              simpa using hj) ⟨hs.cells.mono ok hxd, A, xcap, rfl, hcells⟩ (by rw [htl]; exact hf) (by rw [htl]; omega)
            rw [htl] at h1 h4
            refine ⟨_, _, E1, w1, r, hk, h1, h2, hxd.trans h3, by simpa using h4⟩
      · exact ha.elim
    · exact ha.elim
  | _ => exact ha.elim

end
end Sh
end Go.Proofs.YtomdfaelgcefdaaGreatDoor
