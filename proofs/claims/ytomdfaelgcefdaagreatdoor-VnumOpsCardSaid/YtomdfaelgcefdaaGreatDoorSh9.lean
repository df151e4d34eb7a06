/- The shadow machine, part 9: slices cut, parts laid, equality. -/
import Derived.Test.YtomdfaelgcefdaaGreatDoorSh8
namespace Go.Proofs.YtomdfaelgcefdaaGreatDoor
open Go
namespace Sh
variable {K : Type} {El : K → Type} {S : Seat K El}

theorem run_sliceBound {P : Program} (w : World) (k : IntKind) (i : Int) (y : Nat) (code : BoundsCode) (h0 : 0 ≤ i) (h1 : i ≤ y) : (Instr.sliceBound (.int k i) y code).run P w = .ok i.toNat w := by
  simp [Instr.sliceBound, asIntOf, h0, h1]

theorem run_sliceBounds {P : Program} (w : World) (b : Bool) {len cap : Nat} {vlo vhi vmx : Option Value} {l h m : Int} (hl0 : 0 ≤ l) (hlh : l ≤ h) (hhm : h ≤ m) (hmc : m ≤ cap)
    (hlo : (vlo = none ∧ l = 0) ∨ ∃ k, vlo = some (.int k l)) (hhi : (vhi = none ∧ vmx = none ∧ h = len) ∨ ∃ k, vhi = some (.int k h)) (hmx : (vmx = none ∧ m = cap) ∨ ∃ k, vmx = some (.int k m)) :
    (Instr.sliceBounds b len cap vlo vhi vmx).run P w = .ok (l.toNat, h.toNat, m.toNat) w := by
  have hm0 : 0 ≤ m := by omega
  have hh0 : 0 ≤ h := by omega
  rcases hmx with ⟨rfl, rfl⟩ | ⟨km, rfl⟩
  · rcases hhi with ⟨rfl, _, rfl⟩ | ⟨kh, rfl⟩
    · rcases hlo with ⟨rfl, rfl⟩ | ⟨kl, rfl⟩
      · simp [Instr.sliceBounds]
      · have := run_sliceBound (P := P) w kl l len .sliceB hl0 hlh
        simp [Instr.sliceBounds, this]
    · have h1 := fun c => run_sliceBound (P := P) w kh h cap c hh0 hhm
      rcases hlo with ⟨rfl, rfl⟩ | ⟨kl, rfl⟩
      · simp [Instr.sliceBounds, h1]
      · have h2 := fun c => run_sliceBound (P := P) w kl l h.toNat c hl0 (by omega)
        simp [Instr.sliceBounds, h1, h2]
  · rcases hhi with ⟨_, h2, _⟩ | ⟨kh, rfl⟩
    · cases h2
    · have h0 := fun c => run_sliceBound (P := P) w km m cap c hm0 hmc
      have h1 := fun c => run_sliceBound (P := P) w kh h m.toNat c hh0 (by omega)
      rcases hlo with ⟨rfl, rfl⟩ | ⟨kl, rfl⟩
      · simp [Instr.sliceBounds, h0, h1]
      · have h2 := fun c => run_sliceBound (P := P) w kl l h.toNat c hl0 (by omega)
        simp [Instr.sliceBounds, h0, h1, h2]

theorem run_sliceAt {P : Program} (w : World) {t e : TypeId} (ht : P.underlying t = some (.slice e)) {sz : Nat} {i : TypeInfo} (hi : P.info? e = some i) (hsz : i.size = sz) {A : Option Addr} {len cap : Nat} {vlo vhi vmx : Option Value} {l h m : Int}
    (hl0 : 0 ≤ l) (hlh : l ≤ h) (hhm : h ≤ m) (hmc : m ≤ cap)
    (hlo : (vlo = none ∧ l = 0) ∨ ∃ k, vlo = some (.int k l)) (hhi : (vhi = none ∧ vmx = none ∧ h = len) ∨ ∃ k, vhi = some (.int k h)) (hmx : (vmx = none ∧ m = cap) ∨ ∃ k, vmx = some (.int k m)) :
    (Instr.sliceAt t (.slice A len cap) vlo vhi vmx).run P w = .ok (.slice (if m.toNat = l.toNat then A else A.map (·.add (l.toNat * sz))) (h.toNat - l.toNat) (m.toNat - l.toNat)) w := by
  have := run_sliceBounds (P := P) w true hl0 hlh hhm hmc hlo hhi hmx
  simp [Instr.sliceAt, Instr.slice, run_underlying ht, this, sizeOf, typeInfo, hi, hsz]

theorem idx_sound {on : Bool} {v : Option (AV K El)} {d : Int} {kk : Int → Prop} (h : idx on v d kk) : (on = false ∧ kk d) ∨ ∃ k n, on = true ∧ v = some (.int k n) ∧ kk n := by
  unfold idx at h
  split at h
  · exact .inl ⟨rfl, h⟩
  · exact .inr ⟨_, _, rfl, rfl, h⟩
  · exact h.elim

section
variable (ok : Ok S) {E E' : Env} {H : Heap K El} {w w' : World} {k : K}

/-- The three bounds as the shadow machine reads them. -/
structure Bds (lo hi mx : Bool) (vs : List (AV K El)) (vlo vhi vmx : Option Value) : Prop where
  plo : (lo = false ∧ vlo = none) ∨ (lo = true ∧ ∀ k l, (if lo then vs[0]? else none) = some (.int k l) → vlo = some (.int k l))
  phi : (hi = false ∧ vhi = none) ∨ (hi = true ∧ ∀ k l, vs[lo.toNat]? = some (.int k l) → vhi = some (.int k l))
  pmx : (mx = false ∧ vmx = none) ∨ (mx = true ∧ hi = true ∧ ∀ k l, vs[lo.toNat + hi.toNat]? = some (.int k l) → vmx = some (.int k l))

theorem alive_loc {x : AV K El} (h : Emb S E H w) (ha : alive H x = true) : ∀ (i : Nat), (∃ off, x = .ptr i off) ∨ (∃ k e off, x = .eptr k i e off) ∨ (∃ k lo len c, x = .own k i lo len c) ∨ x = .mp i ∨ (∃ f is, x = .clo f is ∧ some i ∈ is) → E.ρ[i]? ≠ some .gone := by
  intro i hx hg
  have hlt : i < H.length := by rw [← h.len]; exact (List.getElem?_eq_some_iff.1 hg).1
  have ho := h.obj i H[i] .gone (List.getElem?_eq_getElem hlt) hg
  have hq : H[i]? = some .gone := by
    rw [List.getElem?_eq_getElem hlt]
    cases hH : H[i] with
    | gone => rfl
    | cells vs => rw [hH] at ho; exact ho.elim
    | row k xs => rw [hH] at ho; exact ho.elim
    | siter s p => rw [hH] at ho; exact ho.elim
    | rowx k xs e vs => rw [hH] at ho; exact ho.elim
    | map es => rw [hH] at ho; exact ho.elim
    | miter i => rw [hH] at ho; exact ho.elim
  rcases hx with ⟨_, rfl⟩ | ⟨_, _, _, rfl⟩ | ⟨_, _, _, _, rfl⟩ | rfl | ⟨f, is, rfl, hi⟩
  · simp [alive, hq] at ha
  · simp [alive, hq] at ha
  · simp [alive, hq] at ha
  · simp [alive, hq] at ha
  · have := List.all_eq_true.1 ha _ hi
    simp [hq] at this

include ok in
theorem slc_sound (h : Emb S E H w) {t : TypeId} (ht : S.P.underlying t = some (.slice (S.ty k))) {lo hi mx : Bool} {x : AV K El} {vs : List (AV K El)} {kt : AV K El → Prop} (hs : slc k lo hi mx x vs kt)
    {vlo vhi vmx : Option Value} (hb : Bds lo hi mx vs vlo vhi vmx) {xv : Value} (ha : alive H x = true) (hx : VR S E w x xv) :
    ∃ r rv, kt r ∧ (Instr.sliceAt t xv vlo vhi vmx).run S.P w = .ok rv w ∧ VR S E w r rv := by
  obtain ⟨ti, z, hti, htsz, hz, hzs, hby, hzz⟩ := ok.info k
  -- the bounds out of `idx`
  have lows : ∀ {kk : Int → Prop}, idx lo (if lo then vs[0]? else none) 0 kk → ∃ l, kk l ∧ ((vlo = none ∧ l = 0) ∨ ∃ k, vlo = some (.int k l)) := by
    intro kk hh
    rcases idx_sound hh with ⟨h1, h2⟩ | ⟨kd, n, h1, h2, h3⟩
    · rcases hb.plo with ⟨_, h5⟩ | ⟨h4, _⟩
      · exact ⟨0, h2, .inl ⟨h5, rfl⟩⟩
      · rw [h1] at h4; cases h4
    · rcases hb.plo with ⟨h4, _⟩ | ⟨_, h5⟩
      · rw [h1] at h4; cases h4
      · exact ⟨n, h3, .inr ⟨kd, h5 kd n h2⟩⟩
  have his : ∀ {d : Int} {kk : Int → Prop}, idx hi vs[lo.toNat]? d kk → ∃ l, kk l ∧ ((vhi = none ∧ vmx = none ∧ l = d) ∨ ∃ k, vhi = some (.int k l)) := by
    intro d kk hh
    rcases idx_sound hh with ⟨h1, h2⟩ | ⟨kd, n, h1, h2, h3⟩
    · rcases hb.phi with ⟨_, h5⟩ | ⟨h4, _⟩
      · refine ⟨d, h2, .inl ⟨h5, ?_, rfl⟩⟩
        rcases hb.pmx with ⟨_, h6⟩ | ⟨_, h6, _⟩
        · exact h6
        · rw [h1] at h6; cases h6
      · rw [h1] at h4; cases h4
    · rcases hb.phi with ⟨h4, _⟩ | ⟨_, h5⟩
      · rw [h1] at h4; cases h4
      · exact ⟨n, h3, .inr ⟨kd, h5 kd n h2⟩⟩
  have own : ∀ {i l0 len : Nat} {c : Cp} {xv : Value}, alive H (.own k i l0 len c) = true → VR S E w (.own k i l0 len c) xv → ∀ {l hh : Int} {m : Option Int}, sliceOwn k i l0 len c l hh m kt → ((vlo = none ∧ l = 0) ∨ ∃ k, vlo = some (.int k l)) →
      ((vhi = none ∧ vmx = none ∧ hh = len) ∨ ∃ k, vhi = some (.int k hh)) → ((vmx = none ∧ m = none) ∨ ∃ k n, vmx = some (.int k n) ∧ m = some n) →
      ∃ r rv, kt r ∧ (Instr.sliceAt t xv vlo vhi vmx).run S.P w = .ok rv w ∧ VR S E w r rv := by
    intro i l0 len c xv hal hv l hh m hso hlo hhi hmx
    obtain ⟨hl0, hlh, hhl, hk⟩ := hso
    cases hv with
    | own hi hf hw hle hm ho =>
      rename_i b o cap
      rcases hmx with ⟨hv1, rfl⟩ | ⟨km, n, hv1, rfl⟩
      · have hr := run_sliceAt (P := S.P) w ht hti htsz (A := some ⟨b, o, none⟩) (len := len) (cap := cap) hl0 hlh (m := cap) (by omega) (Int.le_refl _) hlo hhi (.inl ⟨hv1, rfl⟩)
        simp only [Int.toNat_natCast, Option.map_some, add_lit] at hr
        refine ⟨_, _, hk, hr, ?_⟩
        have hcap : l.toNat ≤ cap := by omega
        by_cases hcl : cap = l.toNat
        · rw [if_pos hcl]
          by_cases hz0 : l.toNat = 0
          · have hc0 : cap - l.toNat = cap := by omega
            rw [hc0, hz0]
            refine .own hi (fun hc => by cases c <;> simp at hc) (fun hc => ?_) (by omega) hm ?_
            · cases c <;> simp at hc
              simpa using hw rfl
            · rcases ho with ho | ⟨h1, h2, h3⟩
              · exact .inl (by simpa using ho)
              · exact .inr ⟨by simpa using h1, by omega, h3⟩
          · refine .own hi (fun hc => by cases c <;> simp at hc) (fun hc => ?_) (by omega) (by omega) (.inr ⟨by omega, by omega, by omega⟩)
            cases c <;> simp at hc
            obtain ⟨e, he⟩ := hw rfl
            exact ⟨e, by rw [he]; congr 3; omega⟩
        · rw [if_neg hcl]
          refine .own hi (fun hc => by cases c <;> simp at hc) (fun hc => ?_) (by omega) (by omega) ?_
          · cases c <;> simp at hc
            obtain ⟨e, he⟩ := hw rfl
            exact ⟨e, by rw [he]; congr 3; omega⟩
          · rcases ho with ho | ⟨h1, h2, h3⟩
            · exact .inl (by rw [ho, Nat.add_mul])
            · omega
      · obtain ⟨hnh, hk⟩ := hk
        subst hnh
        have hr := run_sliceAt (P := S.P) w ht hti htsz (A := some ⟨b, o, none⟩) (len := len) (cap := cap) hl0 hlh (m := n) (Int.le_refl _) (by omega) hlo hhi (.inr ⟨km, hv1⟩)
        simp only [Option.map_some, add_lit] at hr
        refine ⟨_, _, hk, hr, ?_⟩
        by_cases hcl : n.toNat = l.toNat
        · rw [if_pos hcl]
          refine .own hi (fun _ => rfl) (fun hc => by cases hc) (Nat.le_refl _) (by omega) ?_
          by_cases hz0 : l0 + l.toNat = 0
          · left
            rcases ho with ho | ⟨h1, _⟩
            · rw [hz0]; rw [ho]; have : l0 = 0 := by omega
              rw [this]
            · omega
          · exact .inr ⟨hz0, by omega, by omega⟩
        · rw [if_neg hcl]
          refine .own hi (fun _ => rfl) (fun hc => by cases hc) (Nat.le_refl _) (by omega) ?_
          rcases ho with ho | ⟨h1, h2, h3⟩
          · exact .inl (by rw [ho, Nat.add_mul])
          · omega
    | ownNil hi =>
      have hl : l = 0 := by omega
      have hh0 : hh = 0 := by omega
      subst hl; subst hh0
      rcases hmx with ⟨hv1, rfl⟩ | ⟨km, n, hv1, rfl⟩
      · have hr := run_sliceAt (P := S.P) w ht hti htsz (A := none) (len := 0) (cap := 0) (Int.le_refl 0) (Int.le_refl 0) (m := 0) (Int.le_refl 0) (Int.le_refl 0) hlo hhi (.inl ⟨hv1, rfl⟩)
        simp at hr
        refine ⟨_, _, hk, hr, ?_⟩
        simpa using VR.ownNil hi
      · obtain ⟨hnh, hk⟩ := hk
        subst hnh
        have hr := run_sliceAt (P := S.P) w ht hti htsz (A := none) (len := 0) (cap := 0) (Int.le_refl 0) (Int.le_refl 0) (m := 0) (Int.le_refl 0) (Int.le_refl 0) hlo hhi (.inr ⟨km, hv1⟩)
        simp at hr
        refine ⟨_, _, hk, hr, ?_⟩
        simpa using VR.ownNil hi
    | ownGone hi _ => exact absurd hi (alive_loc h hal i (.inr (.inr (.inl ⟨_, _, _, _, rfl⟩))))
  cases x <;> first
    | exact hs.elim
    | skip
  case own k' i l0 len c =>
    simp only [slc] at hs
    obtain ⟨l, hs, hlo⟩ := lows hs
    obtain ⟨hh, hs, hhi⟩ := his hs
    obtain ⟨rfl, hs⟩ := hs
    rcases hb.pmx with ⟨rfl, h6⟩ | ⟨rfl, rfl, h6⟩
    · exact own ha hx (by simpa using hs) hlo hhi (.inl ⟨h6, rfl⟩)
    · rcases idx_sound (show idx true _ _ _ from by simpa using hs) with ⟨h1, _⟩ | ⟨km, n, _, h2, h3⟩
      · cases h1
      · exact own ha hx h3 hlo hhi (.inr ⟨km, n, h6 km n (by simpa using h2), rfl⟩)
  case imm k' xs =>
    simp only [slc] at hs
    obtain ⟨l, hs, hlo⟩ := lows hs
    obtain ⟨hh, hs, hhi⟩ := his hs
    obtain ⟨rfl, hl0, hlh, hhl, rfl, hk⟩ := hs
    have hmx : vmx = none := by
      rcases hb.pmx with ⟨_, h6⟩ | ⟨h6, _⟩
      · exact h6
      · cases h6
    cases hx with
    | immNil A cap hm0 =>
      have hl : l = 0 := by simp at hhl; omega
      have hh0 : hh = 0 := by simp at hhl; omega
      subst hl; subst hh0
      have hr := run_sliceAt (P := S.P) w ht hti htsz (A := A) (len := 0) (cap := cap) (Int.le_refl 0) (Int.le_refl 0) (m := cap) (by omega) (Int.le_refl _) hlo (by simpa using hhi) (.inl ⟨hmx, rfl⟩)
      exact ⟨_, _, hk, hr, .immNil _ _ (by omega)⟩
    | imm b o cap cs hst hle hm hc hv =>
      have hr := run_sliceAt (P := S.P) w ht hti htsz (A := some ⟨b, o, none⟩) (len := xs.length) (cap := cap) hl0 hlh (m := cap) (by omega) (Int.le_refl _) hlo hhi (.inl ⟨hmx, rfl⟩)
      simp only [Int.toNat_natCast, Option.map_some, add_lit] at hr
      have hlen : ((xs.take hh.toNat).drop l.toNat).length = hh.toNat - l.toNat := by simp; omega
      refine ⟨_, _, hk, hr, ?_⟩
      have key : ∀ o', (((xs.take hh.toNat).drop l.toNat) ≠ [] → o' = o + l.toNat * S.size k') → VR S E w (.imm k' ((xs.take hh.toNat).drop l.toNat)) (.slice (some ⟨b, o', none⟩) (hh.toNat - l.toNat) (cap - l.toNat)) := by
        intro o' ho'
        rw [← hlen]
        refine .imm b o' _ (fun n => cs (l.toNat * S.size k' + n)) (fun hne => hst (by rintro rfl; simp at hne)) (by omega) (by omega) (fun n hn => ?_) (fun j y t u hy hu => ?_)
        · have hne : ((xs.take hh.toNat).drop l.toNat) ≠ [] := by
            intro he; rw [he] at hn; simp at hn
          rw [ho' hne]
          rw [hlen] at hn
          have hmul : l.toNat * S.size k' + (hh.toNat - l.toNat) * S.size k' ≤ xs.length * S.size k' := by rw [← Nat.add_mul]; exact Nat.mul_le_mul_right _ (by omega)
          have := hc (l.toNat * S.size k' + n) (by omega)
          rw [← Nat.add_assoc] at this
          exact this
        · have hj := (List.getElem?_eq_some_iff.1 hy).1
          rw [List.getElem?_drop, List.getElem?_take_of_lt (by omega)] at hy
          have := hv _ _ t u hy hu
          rw [Nat.add_mul, Nat.add_assoc] at this
          exact this
      by_cases hcl : cap = l.toNat
      · rw [if_pos hcl]
        exact key o (fun hne => absurd (List.eq_nil_of_length_eq_zero (by rw [hlen]; omega)) hne)
      · rw [if_neg hcl]
        exact key _ (fun _ => rfl)
  case nils =>
    simp only [slc] at hs
    obtain ⟨l, hs, hlo⟩ := lows hs
    obtain ⟨hh, hs, hhi⟩ := his hs
    obtain ⟨rfl, rfl, rfl, hk⟩ := hs
    cases hx
    have hmx : vmx = none := by
      rcases hb.pmx with ⟨_, h6⟩ | ⟨h6, _⟩
      · exact h6
      · cases h6
    have hr := run_sliceAt (P := S.P) w ht hti htsz (A := none) (len := 0) (cap := 0) (Int.le_refl 0) (Int.le_refl 0) (m := 0) (Int.le_refl 0) (Int.le_refl 0) hlo (by simpa using hhi) (.inl ⟨hmx, rfl⟩)
    simp at hr
    exact ⟨_, _, hk, hr, .nils⟩

end
end Sh
end Go.Proofs.YtomdfaelgcefdaaGreatDoor
