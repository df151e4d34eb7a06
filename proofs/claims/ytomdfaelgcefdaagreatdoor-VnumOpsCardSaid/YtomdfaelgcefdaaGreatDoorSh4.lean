/- The shadow machine, part 4: what a function's contract says, what an operation asks for, and a call's way back. -/
import Derived.Test.YtomdfaelgcefdaaGreatDoorSh3
namespace Go.Proofs.YtomdfaelgcefdaaGreatDoor
open Go
namespace Sh
variable {K : Type} {El : K → Type}

/-- A function's contract, of arguments over a heap of its own. -/
def Spec (S : Seat K El) (f : Nat) (vs : List (AV K El)) (H : Heap K El) (R : AV K El → Heap K El → Prop) : Prop :=
  ∀ (E : Env) (w : World) (args : Array Value), Emb S E H w → args.size = vs.length → (∀ (j : Nat) u, vs[j]? = some u → ∃ v, args[j]? = some v ∧ VR2 S E w u v) →
    Calls S.P f args w fun e w' => ∃ v r E' H', e = .returned v ∧ R r H' ∧ VRv S E' w' r v ∧ Emb S E' H' w' ∧ Ext E w E' w'

def callG (S : Seat K El) (f : Nat) (vs : List (AV K El)) (H : Heap K El) (k : AV K El → Heap K El → Prop) : Prop :=
  ∃ (ids lent : List Nat) (R : AV K El → Heap K El → Prop), ids.Nodup ∧ (∀ i ∈ ids, i < H.length) ∧ vs.all AV.ntup = true ∧ okT H ids lent vs ∧ okH H ids lent ids ∧
    Spec S f (vs.map (loc2 H ids lent)) (locH H ids lent) R ∧
    ∀ r H', R r H' → (lent = [] ∨ (pureV r = true ∧ H'.all (pureO S) = true)) ∧ k (glob H.length ids r) (globH H ids H')

def callable (P : Program) (f : Nat) : Bool := match P.funcs[f]? with
  | some fn => fn.body.isSome && !(fn.name == "runtime.NumGoroutine")
  | none => false

def byteAt (s : ByteArray) (n : Nat) : Int := if h : n < s.size then (s[n]'h).toNat else 0

def lenI (str : Bool) (x : AV K El) (k : Int → Prop) : Prop := match str, x with
  | false, .own _ _ _ len _ => k len
  | false, .imm _ xs => k xs.length
  | false, .nils => k 0
  | true, .str s => k s.size
  | _, _ => False

/-- `copy(d, s)`. -/
def cpy (S : Seat K El) (H : Heap K El) (kk : K) (d : AV K El) (ys : List (El kk)) (k : AV K El → Heap K El → Prop) : Prop := match d with
  | .own k' i lo len _ => match H[i]? with
    | some (.row kr xs) => match castL S kr kk xs with
      | some xs => kr = k' ∧ lo + len ≤ xs.length ∧
          k (.int .i64 (min ys.length len : Nat)) (H.set i (.row kk (xs.take lo ++ ys.take len ++ xs.drop (lo + min ys.length len))))
      | none => False
    | _ => False
  | .nils => k (.int .i64 0) H
  | _ => False

def nilG (x : AV K El) (k : AV K El → Prop) : Prop := match x with
  | .ptr _ _ | .eptr _ _ _ _ | .iptr _ _ _ _ | .fn _ | .clo _ _ => k x
  | _ => False

def faddrG (off : Nat) (x : AV K El) (k : AV K El → Prop) : Prop := match x with
  | .ptr i o => k (.ptr i (o + off))
  | .eptr kk i e o => k (.eptr kk i e (o + off))
  | .iptr kk xs e o => k (.iptr kk xs e (o + off))
  | _ => False

def iaddrG (kk : K) (x : AV K El) (n : Int) (k : AV K El → Prop) : Prop := match x with
  | .own k' i lo len _ => k' = kk ∧ 0 ≤ n ∧ n < len ∧ k (.eptr k' i (lo + n.toNat) 0)
  | .imm k' xs => k' = kk ∧ 0 ≤ n ∧ n < xs.length ∧ k (.iptr k' xs n.toNat 0)
  | _ => False

/-- Captured variables as they are handed over. -/
def capV : Option Nat → AV K El
  | none => .nilp
  | some i => .ptr i 0

def capOf : AV K El → Option (Option Nat)
  | .nilp => some none
  | .ptr i 0 => some (some i)
  | _ => none

def capsOf : List (AV K El) → Option (List (Option Nat))
  | [] => some []
  | v :: vs => match capOf v, capsOf vs with
    | some o, some os => some (o :: os)
    | _, _ => none

def cloOf (f : Nat) (is : List (Option Nat)) : AV K El := match is with
  | [] => .fn f
  | is => .clo f is

def G (S : Seat K El) (p : Prim K El) (vs : List (AV K El)) (H : Heap K El) (k : AV K El → Heap K El → Prop) : Prop :=
  match p, vs with
  | .mov, [x] => k x H
  | .pick, [.bool c, a, b] => k (cond c a b) H
  | .alloc z, [] => k (.ptr H.length 0) (H ++ [.cells z])
  | .box, [v] => v.cells.all AV.one = true ∧ k (.ptr H.length 0) (H ++ [.cells v.cells])
  | .build z ps, vs => match lay z ps vs with
    | some cs => k (.agg cs) H
    | none => False
  | .mkrow kk, vs => match rowOf S kk vs with
    | some xs => k (.own kk H.length 0 xs.length (cpOf xs)) (H ++ [.row kk xs])
    | none => False
  | .load n ag, [a] => rd S H a n fun us => k (if ag then .agg us else us.headD .junk) H
  | .store n, [a, v] => v.cells.length = n ∧ v.cells.all AV.one = true ∧ wr S H a v.cells fun H' => k .junk H'
  | .nilck, [x] => alive H x = true ∧ nilG x fun v => k v H
  | .bin op c, [x, y] => alive H x = true ∧ alive H y = true ∧ bin op c x y fun v => k v H
  | .un op, [x] => un op x fun v => k v H
  | .conv kk, [.int _ n] => k (.int kk (kk.wrap n)) H
  | .b2s kk, [x] => content S H kk x fun ys => (S.size kk = 1 ∧ ∀ y ∈ ys, ∃ n, S.enc kk y = [.int .u8 n]) ∧ k (.str (bytesS S kk ys)) H
  | .slice kk lo hi mx, x :: vs => alive H x = true ∧ slc kk lo hi mx x vs fun v => k v H
  | .rangeS, [.str s] => k (.ptr H.length 0) (H ++ [.siter s 0])
  | .nextS, [.ptr i 0] => match H[i]? with
    | some (.siter s p) => cas (decide (p < s.size)) (k (.tup [.bool true, .int .i64 p, .int .i32 (Utf8.decode s p).1]) (H.set i (.siter s (p + (Utf8.decode s p).2)))) (k (.tup [.bool false]) H)
    | _ => False
  | .sslice lo hi, .str s :: vs => idx lo (if lo then vs[0]? else none) 0 fun l => idx hi vs[lo.toNat]? s.size fun h =>
      0 ≤ l ∧ l ≤ h ∧ h ≤ s.size ∧ k (.str (s.extract l.toNat h.toNat)) H
  | .faddr off, [x] => alive H x = true ∧ faddrG off x fun v => k v H
  | .field off n ag, [.agg cs] => off + n ≤ cs.length ∧ k (if ag then .agg ((cs.drop off).take n) else (cs.drop off).headD .junk) H
  | .iaddr kk, [x, .int _ n] => alive H x = true ∧ iaddrG kk x n fun v => k v H
  | .sindex, [.str s, .int _ n] => 0 ≤ n ∧ n < s.size ∧ k (.int .u8 (byteAt s n.toNat)) H
  | .extract j, [.tup vs] => match vs[j]? with
    | some v => k v H
    | none => False
  | .call f, vs => callG S f vs H k
  | .callv, .fn f :: vs => callable S.P f = true ∧ callG S f vs H k
  | .callv, .clo f is :: vs => alive H (.clo f is) = true ∧ callable S.P f = true ∧ callG S f (vs ++ is.map capV) H k
  | .append kk, [s, x] => content S H kk x fun ys => app S H kk s ys k
  | .copy kk, [d, s] => content S H kk s fun ys => cpy S H kk d ys k
  | .len str, [x] => alive H x = true ∧ lenI str x fun n => k (.int .i64 n) H
  | .mkslice kk, [.int _ l, .int _ c] => 0 ≤ l ∧ l = c ∧ fits S kk l.toNat ∧ k (.own kk H.length 0 l.toNat .whole) (H ++ [.row kk (List.replicate l.toNat (S.zero kk))])
  | .mkfn f, vs => match capsOf vs with
    | some is => vs.all (alive H) = true ∧ k (cloOf f is) H
    | none => False
  | .aindex len sz ag, [.agg cs, .int _ n] => 0 ≤ n ∧ n < len ∧ n.toNat * sz + sz ≤ cs.length ∧ k (if ag then .agg ((cs.drop (n.toNat * sz)).take sz) else (cs.drop (n.toNat * sz)).headD .junk) H
  | .mkmap, _ => k (.mp H.length) (H ++ [.map []])
  | .mlook c z ck, [.mp i, key] => match H[i]? with
    | some (.map es) => kd1 c key = true ∧ match mfind key es 0 with
      | some none => k (if ck then .tup [z, .bool false] else z) H
      | some (some (_, v)) => k (if ck then .tup [v, .bool true] else v) H
      | none => False
    | _ => False
  | .mput c, [.mp i, key, v] => match H[i]? with
    | some (.map es) => kd1 c key = true ∧ v.data = true ∧ match mfind key es 0 with
      | some none => k .junk (H.set i (.map (es ++ [(key, v)])))
      | some (some (j, _)) => k .junk (H.set i (.map (es.set j (key, v))))
      | none => False
    | _ => False
  | .rangeM, [.mp i] => match H[i]? with
    | some (.map _) => k (.ptr H.length 0) (H ++ [.miter i])
    | _ => False
  | .nextM, [.ptr j 0] => match H[j]? with
    | some (.miter i) => match H[i]? with
      | some (.map []) => k (.tup [.bool false]) H
      | _ => False
    | _ => False
  | _, _ => False

/-! ### The way back from a call -/
variable {S : Seat K El}

theorem VR.of_pure {E E' : Env} {w : World} {u : AV K El} {v : Value} (h : VR S E w u v) (hu : u.free = true) (hp : pure1 u = true) : VR S E' w u v := by
  cases h with
  | junk v => exact .junk v
  | cell v hv => exact .cell v hv
  | bool b => exact .bool b
  | int k n => exact .int k n
  | str s => exact .str s
  | nilp => exact .nilp
  | nils => exact .nils
  | fn f => exact .fn f
  | nilfn => exact .nilfn
  | nilmap => exact .nilmap
  | immNil A cap hm => exact .immNil A cap hm
  | ptr _ | ptrGone _ _ | eptr _ | eptrGone _ _ | own _ _ _ _ _ _ | ownNil _ | ownGone _ _ | clo _ _ _ | cloGone _ _ _ | mp _ | mpGone _ _ => simp [AV.free] at hu
  | iptr _ _ _ _ _ _ | imm _ _ _ _ _ _ _ _ _ => simp [pure1] at hp

/-- The places behind a call. -/
def backρ (ρ ρ' : List Loc) (ids : List Nat) : List Loc :=
  ((List.range ρ.length).map fun i => match ids.idxOf? i with
    | some j => ρ'.getD j .gone
    | none => ρ.getD i .gone) ++ ρ'.drop ids.length

theorem nodup_idxOf? {ids : List Nat} (h : ids.Nodup) {i j : Nat} (hj : ids[j]? = some i) : ids.idxOf? i = some j := by
  cases hq : ids.idxOf? i with
  | none => exact absurd (mem_of_getElem? hj) (idxOf?_none hq)
  | some q => exact congrArg some (nodup_at h (idxOf?_some hq) hj)

theorem backρ_length (ρ ρ' : List Loc) (ids : List Nat) : (backρ ρ ρ' ids).length = ρ.length + (ρ'.length - ids.length) := by simp [backρ]

theorem backρ_old (ρ ρ' : List Loc) (ids : List Nat) {i : Nat} (hi : i < ρ.length) :
    (backρ ρ ρ' ids)[i]? = some (match ids.idxOf? i with | some j => ρ'.getD j .gone | none => ρ.getD i .gone) := by
  rw [backρ, List.getElem?_append_left (by simpa using hi)]
  simp [hi]

theorem backρ_new (ρ ρ' : List Loc) (ids : List Nat) (j : Nat) : (backρ ρ ρ' ids)[ρ.length + j]? = ρ'[ids.length + j]? := by
  rw [backρ, List.getElem?_append_right (by simp)]
  simp

section
variable {E Ec Ec' : Env} {H H' : Heap K El} {w w' : World} {ids lent : List Nat}

/-- What the callee's environment is. -/
def inF (E : Env) (ids lent : List Nat) (b : Nat) : Prop := E.F b ∨ ∃ i : Nat, i ∉ ids ∧ i ∉ lent ∧ E.ρ[i]? = some (.blk b)
def inEnv (E : Env) (ids lent : List Nat) : Env := ⟨ids.map fun i => E.ρ.getD i .gone, inF E ids lent⟩
def backEnv (E Ec' : Env) (ids : List Nat) : Env := ⟨backρ E.ρ Ec'.ρ ids, E.F⟩

theorem Sub.inEnv (h : Emb S E H w) (hn : ids.Nodup) (hl : ∀ i ∈ ids, i < H.length) : Sub S E H w ids lent (inEnv E ids lent) := by
  have back : ∀ (j : Nat) (b : Nat), (Sh.inEnv E ids lent).ρ[j]? = some (.blk b) → ∃ i, i ∈ ids ∧ E.ρ[i]? = some (.blk b) := by
    intro j b hj
    simp only [Sh.inEnv, List.getElem?_map] at hj
    cases hq : ids[j]? with
    | none => rw [hq] at hj; simp at hj
    | some i =>
      rw [hq] at hj; simp at hj
      have hlt : i < E.ρ.length := by rw [h.len]; exact hl i (mem_of_getElem? hq)
      refine ⟨i, mem_of_getElem? hq, ?_⟩
      rw [List.getElem?_eq_getElem hlt]
      simpa [List.getD, List.getElem?_eq_getElem hlt] using hj
  refine ⟨h, hn, hl, rfl, fun b hb => ⟨fun i hi => ?_, fun hF => ?_⟩, fun i b hi hni hb => ⟨fun j hj => ?_, fun hF => ?_⟩, fun b hF => ?_⟩
  · obtain ⟨a, _, ha⟩ := back i b hi
    exact hb.1 a ha
  · rcases hF with hF | ⟨i, _, _, hi⟩
    · exact hb.2 hF
    · exact hb.1 i hi
  · obtain ⟨a, ha, hab⟩ := back j b hj
    have := h.inj a i b hab hb
    subst this
    exact hni ha
  · rcases hF with hF | ⟨a, ha, hal, hab⟩
    · exact (h.F b hF).2 i hb
    · have := h.inj a i b hab hb
      subst this
      exact hal hi
  · rcases hF with hF | ⟨i, hni, hli, hi⟩
    · exact ⟨(h.F b hF).1, fun j hj => by obtain ⟨a, _, hab⟩ := back j b hj; exact (h.F b hF).2 a hab⟩
    · refine ⟨h.lt i b hi, fun j hj => ?_⟩
      obtain ⟨a, ha, hab⟩ := back j b hj
      have := h.inj a i b hab hi
      subst this
      exact hni ha

structure Back (S : Seat K El) (E : Env) (H : Heap K El) (w : World) (ids lent : List Nat) (Ec' : Env) (H' : Heap K El) (w' : World) : Prop where
  emb : Emb S E H w
  nodup : ids.Nodup
  lt : ∀ i ∈ ids, i < H.length
  emb' : Emb S Ec' H' w'
  ext : Ext (inEnv E ids lent) w Ec' w'

theorem Back.sub (h : Back S E H w ids lent Ec' H' w') : Sub S E H w ids lent (inEnv E ids lent) := .inEnv h.emb h.nodup h.lt

theorem Back.len (h : Back S E H w ids lent Ec' H' w') : ids.length ≤ H'.length := by
  rcases Nat.lt_or_ge H'.length ids.length with hlt | hge
  · exfalso
    have hl : (inEnv E ids lent).ρ.length = ids.length := by simp [inEnv]
    have hlt' : H'.length < (inEnv E ids lent).ρ.length := by omega
    rcases h.ext.mono H'.length _ (List.getElem?_eq_getElem hlt') with h1 | h1
    all_goals
      have := (List.getElem?_eq_some_iff.1 h1).1
      rw [h.emb'.len] at this
      omega
  · exact hge

/-- A place behind the call comes from the callee, or is the caller's own, untouched. -/
theorem Back.cases (h : Back S E H w ids lent Ec' H' w') {i : Nat} {l : Loc} (hi : (backEnv E Ec' ids).ρ[i]? = some l) :
    (∃ j, Ec'.ρ[j]? = some l ∧ ((j < ids.length ∧ ids[j]? = some i) ∨ (ids.length ≤ j ∧ i = E.ρ.length + (j - ids.length)))) ∨ (i < E.ρ.length ∧ i ∉ ids ∧ E.ρ[i]? = some l) := by
  have hlen := h.len
  simp only [backEnv] at hi
  by_cases hlt : i < E.ρ.length
  · rw [backρ_old _ _ _ hlt] at hi
    simp only [Option.some.injEq] at hi
    split at hi
    · rename_i j hj
      have hji := idxOf?_some hj
      have hjl := (List.getElem?_eq_some_iff.1 hji).1
      have hjl' : j < Ec'.ρ.length := by rw [h.emb'.len]; omega
      refine .inl ⟨j, ?_, .inl ⟨hjl, hji⟩⟩
      rw [List.getElem?_eq_getElem hjl']
      simpa [List.getD, List.getElem?_eq_getElem hjl'] using hi
    · rename_i hj
      refine .inr ⟨hlt, idxOf?_none hj, ?_⟩
      rw [List.getElem?_eq_getElem hlt]
      simpa [List.getD, List.getElem?_eq_getElem hlt] using hi
  · obtain ⟨t, rfl⟩ : ∃ t, i = E.ρ.length + t := ⟨i - E.ρ.length, by omega⟩
    rw [backρ_new] at hi
    exact .inl ⟨ids.length + t, hi, .inr ⟨by omega, by omega⟩⟩

theorem Back.own_lt (h : Back S E H w ids lent Ec' H' w') {i b : Nat} (hi : E.ρ[i]? = some (.blk b)) (hn : i ∉ ids) : b < w.heap.size ∧ (∀ j : Nat, (inEnv E ids lent).ρ[j]? ≠ some (.blk b)) := by
  refine ⟨h.emb.lt i b hi, fun j hj => ?_⟩
  obtain ⟨a, ha, hab⟩ := h.sub.back hj
  have := h.emb.inj a i b hab hi
  subst this
  exact hn (mem_of_getElem? ha)

theorem Back.own_not (h : Back S E H w ids lent Ec' H' w') {i b : Nat} (hi : E.ρ[i]? = some (.blk b)) (hn : i ∉ ids) (j : Nat) : Ec'.ρ[j]? ≠ some (.blk b) := by
  intro hj
  obtain ⟨h1, h2⟩ := h.own_lt hi hn
  rcases h.ext.fresh j b hj with ⟨a, ha⟩ | hle
  · exact h2 a ha
  · omega

theorem Back.extE (h : Back S E H w ids lent Ec' H' w') : Ext E w (backEnv E Ec' ids) w' where
  size := h.ext.size
  keep b hb hn := h.ext.keep b hb fun j hj => by
    obtain ⟨a, _, hab⟩ := h.sub.back hj
    exact hn a hab
  shape := h.ext.shape
  mono i l hl := by
    have hlt := (List.getElem?_eq_some_iff.1 hl).1
    simp only [backEnv]
    rw [backρ_old _ _ _ hlt]
    split
    · rename_i j hj
      have hji := idxOf?_some hj
      have hin : (inEnv E ids lent).ρ[j]? = some l := h.sub.at_ hji hl
      rcases h.ext.mono j l hin with h1 | h1
      · exact .inl (by simp [List.getD, h1])
      · exact .inr (by simp [List.getD, h1])
    · exact .inl (by simp [List.getD, hl])
  fresh i b hi := by
    rcases h.cases hi with ⟨j, hj, _⟩ | ⟨_, _, h3⟩
    · rcases h.ext.fresh j b hj with ⟨a, ha⟩ | hle
      · obtain ⟨c, _, hc⟩ := h.sub.back ha
        exact .inl ⟨c, hc⟩
      · exact .inr hle
    · exact .inl ⟨i, h3⟩
  F := rfl
  os := h.ext.os
  tape := h.ext.tape
  output := h.ext.output

theorem Back.at_ (h : Back S E H w ids lent Ec' H' w') {j : Nat} {l : Loc} (hj : Ec'.ρ[j]? = some l) :
    (backEnv E Ec' ids).ρ[if j < ids.length then ids.getD j 0 else H.length + (j - ids.length)]? = some l := by
  simp only [backEnv]
  split
  · rename_i hlt
    have hji : ids[j]? = some (ids.getD j 0) := by simp [List.getD, List.getElem?_eq_getElem hlt]
    have hil : ids.getD j 0 < E.ρ.length := by rw [h.emb.len]; exact h.lt _ (mem_of_getElem? hji)
    rw [backρ_old _ _ _ hil, nodup_idxOf? h.nodup hji]
    simp [List.getD, hj]
  · rename_i hge
    rw [← h.emb.len, backρ_new]
    rw [show ids.length + (j - ids.length) = j by omega]
    exact hj

theorem Back.stable (h : Back S E H w ids [] Ec' H' w') {b : Nat} (hb : Stable Ec' b) : Stable (backEnv E Ec' ids) b := by
  refine ⟨fun i hi => ?_, fun hF => hb.2 (by rw [h.ext.F]; exact .inl hF)⟩
  rcases h.cases hi with ⟨j, hj, _⟩ | ⟨_, h2, h3⟩
  · exact hb.1 j hj
  · exact hb.2 (by rw [h.ext.F]; exact .inr ⟨i, h2, by simp, h3⟩)

theorem Back.free (ok : Ok S) (h : Back S E H w ids lent Ec' H' w') {u : AV K El} (hl : lent = [] ∨ pure1 u = true) {v : Value} (hu : u.free = true) (hv : VR S Ec' w' u v) : VR S (backEnv E Ec' ids) w' u v := by
  rcases hl with rfl | hp
  · exact VR.of_free ok (fun b hb => h.stable hb) hv hu
  · exact VR.of_pure hv hu hp

theorem Back.VR1 (ok : Ok S) (h : Back S E H w ids lent Ec' H' w') {u : AV K El} (hl : lent = [] ∨ pure1 u = true) {v : Value} (hv : VR S Ec' w' u v) : VR S (backEnv E Ec' ids) w' (glob1 H.length ids u) v := by
  cases hv with
  | junk v => exact .junk v
  | ptr hi => exact .ptr (h.at_ hi)
  | ptrGone hi hv => exact .ptrGone (h.at_ hi) hv
  | eptr hi => exact .eptr (h.at_ hi)
  | eptrGone hi hv => exact .eptrGone (h.at_ hi) hv
  | own hi hf hw hle hm ho => exact .own (h.at_ hi) hf hw hle hm ho
  | ownNil hi => exact .ownNil (h.at_ hi)
  | ownGone hi hv => exact .ownGone (h.at_ hi) hv
  | cell v hv => exact .cell v hv
  | bool b => exact .bool b
  | int k n => exact .int k n
  | str s => exact .str s
  | nilp => exact .nilp
  | nils => exact .nils
  | fn f => exact .fn f
  | nilfn => exact .nilfn
  | nilmap => exact .nilmap
  | @clo f is cs hsz hn hp =>
    refine .clo (by simpa using hsz) (fun j hj => ?_) fun j i hj => ?_
    · rw [List.getElem?_map] at hj
      refine hn j ?_
      cases hq : is[j]? with
      | none => rw [hq] at hj; simp at hj
      | some o =>
        rw [hq] at hj
        cases o with
        | none => rfl
        | some q => simp at hj
    · rw [List.getElem?_map] at hj
      cases hq : is[j]? with
      | none => rw [hq] at hj; simp at hj
      | some o =>
        rw [hq] at hj
        cases o with
        | none => simp at hj
        | some q =>
          simp only [Option.map_some, Option.some.injEq] at hj
          subst hj
          obtain ⟨b, hb, hc⟩ := hp j q hq
          exact ⟨b, h.at_ hb, hc⟩
  | @cloGone f i is v hi hg hv =>
    exact .cloGone (i := if i < ids.length then ids.getD i 0 else H.length + (i - ids.length)) (List.mem_map.2 ⟨some i, hi, rfl⟩) (h.at_ hg) hv
  | mp hi => exact .mp (h.at_ hi)
  | mpGone hi hv => exact .mpGone (h.at_ hi) hv
  | immNil A cap hm => exact .immNil A cap hm
  | iptr b o cs hs hc hv => exact h.free ok hl rfl (.iptr b o cs hs hc hv)
  | imm b o cap cs hs hle hm hc hv => exact h.free ok hl rfl (.imm b o cap cs hs hle hm hc hv)

theorem glob1_one {n : Nat} {u : AV K El} (h : u.one = true) : (glob1 n ids u).one = true := by cases u <;> first | exact h | rfl
theorem glob1_plain {n : Nat} {u : AV K El} (h : u.plain = true) : (glob1 n ids u).plain = true := by cases u <;> first | exact h | rfl

theorem Back.VR2 (ok : Ok S) (h : Back S E H w ids lent Ec' H' w') {u : AV K El} (hl : lent = [] ∨ pure2 u = true) {v : Value} (hv : VR2 S Ec' w' u v) : VR2 S (backEnv E Ec' ids) w' (glob2 H.length ids u) v := by
  cases hp : u.plain with
  | true =>
    have h1 : glob2 H.length ids u = glob1 H.length ids u := by cases u <;> first | rfl | simp [AV.plain] at hp
    have h2 : pure2 u = pure1 u := by cases u <;> first | rfl | simp [AV.plain] at hp
    rw [h2] at hl
    rw [VR2_plain hp] at hv
    rw [h1, VR2_plain (glob1_plain hp)]
    exact h.VR1 ok hl hv
  | false =>
    cases u <;> simp [AV.plain] at hp
    case agg cs =>
      obtain ⟨a, rfl, hl', hc⟩ := hv
      refine ⟨a, rfl, by simpa using hl', fun j u hj => ?_⟩
      rw [List.getElem?_map] at hj
      cases hq : cs[j]? with
      | none => rw [hq] at hj; simp at hj
      | some x =>
        rw [hq] at hj; simp at hj; subst hj
        obtain ⟨c, h1, h2, h3⟩ := hc j x hq
        refine ⟨c, h1, glob1_one h2, h.VR1 ok (hl.imp id fun hp => ?_) h3⟩
        exact List.all_eq_true.1 hp x (mem_of_getElem? hq)
    case tup cs => exact (show VR S (backEnv E Ec' ids) w' (.tup cs) v from by cases (show VR S Ec' w' (.tup cs) v from hv))

theorem Back.VRv (ok : Ok S) (h : Back S E H w ids lent Ec' H' w') {u : AV K El} (hl : lent = [] ∨ pureV u = true) {v : Value} (hv : VRv S Ec' w' u v) : VRv S (backEnv E Ec' ids) w' (glob H.length ids u) v := by
  cases hp : u.plain with
  | true =>
    have h1 : glob H.length ids u = glob1 H.length ids u := by cases u <;> first | rfl | simp [AV.plain] at hp
    have h2 : pureV u = pure1 u := by cases u <;> first | rfl | simp [AV.plain] at hp
    rw [h2] at hl
    rw [VRv_plain hp] at hv
    rw [h1, VRv_plain (glob1_plain hp)]
    exact h.VR1 ok hl hv
  | false =>
    cases u <;> simp [AV.plain] at hp
    case agg cs => exact h.VR2 ok (u := .agg cs) hl hv
    case tup cs =>
      obtain ⟨a, rfl, hl', hc⟩ := hv
      refine ⟨a, rfl, by simpa using hl', fun j u hj => ?_⟩
      rw [List.getElem?_map] at hj
      cases hq : cs[j]? with
      | none => rw [hq] at hj; simp at hj
      | some x =>
        rw [hq] at hj; simp at hj; subst hj
        obtain ⟨c, h1, h2⟩ := hc j x hq
        exact ⟨c, h1, h.VR2 ok (hl.imp id fun hp => List.all_eq_true.1 hp x (mem_of_getElem? hq)) h2⟩

theorem Back.OR (ok : Ok S) (h : Back S E H w ids lent Ec' H' w') {o : AO K El} (hl : lent = [] ∨ pureO S o = true) {l : Loc} (hv : OR S Ec' w' o l) : OR S (backEnv E Ec' ids) w' (globO H.length ids o) l := by
  cases o with
  | gone => trivial
  | cells vs =>
    cases l with
    | gone => exact hv
    | nil => exact hv
    | blk b =>
      obtain ⟨c, e, h1, h2, h3⟩ := hv
      refine ⟨c, e, h1, by simpa using h2, fun j u hj => ?_⟩
      rw [List.getElem?_map] at hj
      cases hq : vs[j]? with
      | none => rw [hq] at hj; simp at hj
      | some x =>
        rw [hq] at hj; simp at hj; subst hj
        obtain ⟨v, k1, k2, k3⟩ := h3 j x hq
        exact ⟨v, k1, glob1_one k2, h.VR1 ok (hl.imp id fun hp => List.all_eq_true.1 hp x (mem_of_getElem? hq)) k3⟩
  | row k xs =>
    cases l with
    | gone => exact hv
    | nil => exact hv
    | blk b =>
      obtain ⟨c, h1, h2, h3⟩ := hv
      exact ⟨c, h1, h2, fun j x hx t u hu => let ⟨v, k1, k2⟩ := h3 j x hx t u hu
        ⟨v, k1, h.free ok (hl.imp id fun hp => ok.flat k x hp u (mem_of_getElem? hu)) (ok.free _ _ _ (mem_of_getElem? hu)) k2⟩⟩
  | siter s p => cases l <;> exact hv
  | map es =>
    cases l with
    | gone => exact hv
    | nil => exact hv
    | blk b =>
      obtain ⟨es', ck, h1, h2, h3⟩ := hv
      exact ⟨es', ck, h1, h2, fun j e hj => let ⟨e', k1, k2, k3, k4, k5⟩ := h3 j e hj; ⟨e', k1, k2, k3, k4.of_data k2, k5.of_data k3⟩⟩
  | miter i =>
    cases l with
    | gone => exact hv
    | nil => exact hv
    | blk b =>
      obtain ⟨m, since, ck, h1, h2⟩ := hv
      exact ⟨m, since, ck, h1, h2.imp h.at_ h.at_⟩
  | rowx k xs e vs =>
    cases l with
    | gone => exact hv
    | nil => exact hv
    | blk b =>
      obtain ⟨c, h1, h2, h3, h4, h5, h6⟩ := hv
      have hl' : lent = [] ∨ (S.flat k = true ∧ vs.all pure1 = true) := hl.imp id fun hp => by simpa [pureO] using hp
      refine ⟨c, h1, h2, h3, by simpa using h4, fun j x hj hx t u hu => let ⟨v, k1, k2⟩ := h5 j x hj hx t u hu
        ⟨v, k1, h.free ok (hl'.imp id fun hp => ok.flat k x hp.1 u (mem_of_getElem? hu)) (ok.free _ _ _ (mem_of_getElem? hu)) k2⟩, fun t u hj => ?_⟩
      rw [List.getElem?_map] at hj
      cases hq : vs[t]? with
      | none => rw [hq] at hj; simp at hj
      | some x =>
        rw [hq] at hj; simp at hj; subst hj
        obtain ⟨v, k1, k2, k3⟩ := h6 t x hq
        exact ⟨v, k1, glob1_one k2, h.VR1 ok (hl'.imp id fun hp => List.all_eq_true.1 hp.2 x (mem_of_getElem? hq)) k3⟩

theorem put_length (H : Heap K El) : ∀ (l : List Nat) (H0 H' : Heap K El), (globH.put H ids H0 l H').length = H0.length
  | [], _, _ => by simp [globH.put]
  | _ :: _, _, [] => by simp [globH.put]
  | i :: l, H0, o :: os => by simp [globH.put, put_length H l]

theorem put_other (H : Heap K El) : ∀ (l : List Nat) (H0 H' : Heap K El) (i : Nat), i ∉ l → (globH.put H ids H0 l H')[i]? = H0[i]?
  | [], _, _, _, _ => by simp [globH.put]
  | _ :: _, _, [], _, _ => by simp [globH.put]
  | a :: l, H0, o :: os, i, hi => by
    simp only [List.mem_cons, not_or] at hi
    rw [globH.put, put_other H l _ os i hi.2, List.getElem?_set_ne (fun e => hi.1 e.symm)]

theorem put_at (H : Heap K El) : ∀ (l : List Nat) (H0 H' : Heap K El) (i j : Nat) (o : AO K El), l.Nodup → (∀ x ∈ l, x < H0.length) → l[j]? = some i → H'[j]? = some o →
    (globH.put H ids H0 l H')[i]? = some (globO H.length ids o)
  | [], _, _, _, _, _, _, _, h, _ => by simp at h
  | _ :: _, _, [], _, _, _, _, _, _, h => by simp at h
  | a :: l, H0, q :: os, i, j, o, hn, hl, hi, ho => by
    have hn' := List.nodup_cons.1 hn
    cases j with
    | zero =>
      simp at hi ho
      subst hi; subst ho
      rw [globH.put, put_other H l _ os a hn'.1]
      simp [hl a (by simp)]
    | succ j =>
      rw [globH.put]
      exact put_at H l _ os i j o hn'.2 (fun x hx => by rw [List.length_set]; exact hl x (by simp [hx])) (by simpa using hi) (by simpa using ho)

theorem OR.mono (ok : Ok S) {E' : Env} (h : Ext E w E' w') {o : AO K El} {l : Loc} (hb : ∀ b, l = .blk b → w'.heap[b]? = w.heap[b]?) (hv : OR S E w o l) : Sh.OR S E' w' o l := by
  cases o with
  | gone => trivial
  | cells vs =>
    cases l with
    | gone => exact hv
    | nil => exact hv
    | blk b =>
      obtain ⟨c, e, h1, h2, h3⟩ := hv
      exact ⟨c, e, by rw [hb b rfl]; exact h1, h2, fun j u hu => let ⟨v, k1, k2, k3⟩ := h3 j u hu; ⟨v, k1, k2, VR.mono ok h k3⟩⟩
  | row k xs =>
    cases l with
    | gone => exact hv
    | nil => exact hv
    | blk b =>
      obtain ⟨c, h1, h2, h3⟩ := hv
      exact ⟨c, by rw [hb b rfl]; exact h1, h2, fun j x hx t u hu => let ⟨v, k1, k2⟩ := h3 j x hx t u hu; ⟨v, k1, VR.mono ok h k2⟩⟩
  | siter s p =>
    cases l with
    | gone => exact hv
    | nil => exact hv
    | blk b => exact (hb b rfl).trans hv
  | map es =>
    cases l with
    | gone => exact hv
    | nil => exact hv
    | blk b =>
      obtain ⟨es', ck, h1, h2, h3⟩ := hv
      exact ⟨es', ck, by rw [hb b rfl]; exact h1, h2, fun j e hj => let ⟨e', k1, k2, k3, k4, k5⟩ := h3 j e hj; ⟨e', k1, k2, k3, VR.mono ok h k4, VR.mono ok h k5⟩⟩
  | miter i =>
    cases l with
    | gone => exact hv
    | nil => exact hv
    | blk b =>
      obtain ⟨m, since, ck, h1, h2⟩ := hv
      refine ⟨m, since, ck, by rw [hb b rfl]; exact h1, ?_⟩
      rcases h2 with h2 | h2
      · exact h.mono _ _ h2
      · rcases h.mono _ _ h2 with h3 | h3 <;> exact .inr h3
  | rowx k xs e vs =>
    cases l with
    | gone => exact hv
    | nil => exact hv
    | blk b =>
      obtain ⟨c, h1, h2, h3, h4, h5, h6⟩ := hv
      exact ⟨c, by rw [hb b rfl]; exact h1, h2, h3, h4, fun j x hj hx t u hu => let ⟨v, k1, k2⟩ := h5 j x hj hx t u hu; ⟨v, k1, VR.mono ok h k2⟩,
        fun t u hu => let ⟨v, k1, k2, k3⟩ := h6 t u hu; ⟨v, k1, k2, VR.mono ok h k3⟩⟩

theorem Back.embE (ok : Ok S) (h : Back S E H w ids lent Ec' H' w') (hl : lent = [] ∨ H'.all (pureO S) = true) : Emb S (backEnv E Ec' ids) (globH H ids H') w' where
  len := by
    have := h.len
    simp only [backEnv, backρ_length, globH, List.length_append, put_length, List.length_map, List.length_drop, h.emb.len, h.emb'.len]
  obj i o l ho hi := by
    rcases h.cases hi with ⟨j, hj, hji⟩ | ⟨h1, h2, h3⟩
    · have hjl : j < H'.length := by rw [← h.emb'.len]; exact (List.getElem?_eq_some_iff.1 hj).1
      have hq : H'[j]? = some H'[j] := List.getElem?_eq_getElem hjl
      have hgo : (globH H ids H')[i]? = some (globO H.length ids H'[j]) := by
        rcases hji with ⟨hjl', hji⟩ | ⟨hge, rfl⟩
        · have hil : i < H.length := h.lt i (mem_of_getElem? hji)
          rw [globH, List.getElem?_append_left (by rw [put_length]; exact hil)]
          exact put_at H ids H H' i j _ h.nodup h.lt hji hq
        · rw [globH, List.getElem?_append_right (by rw [put_length, h.emb.len]; omega), put_length, h.emb.len]
          rw [List.getElem?_map, List.getElem?_drop]
          rw [show ids.length + (H.length + (j - ids.length) - H.length) = j by omega, hq]
          rfl
      rw [hgo] at ho
      simp only [Option.some.injEq] at ho
      subst ho
      exact h.OR ok (hl.imp id fun hp => List.all_eq_true.1 hp _ (mem_of_getElem? hq)) (h.emb'.obj j _ l hq hj)
    · have hil : i < H.length := by rw [← h.emb.len]; exact h1
      rw [globH, List.getElem?_append_left (by rw [put_length]; exact hil), put_other _ _ _ _ _ h2] at ho
      refine OR.mono ok h.extE (fun b hb => ?_) (h.emb.obj i o l ho h3)
      subst hb
      obtain ⟨k1, k2⟩ := h.own_lt h3 h2
      exact h.ext.keep b k1 k2
  inj i j b hi hj := by
    rcases h.cases hi with ⟨p, hp, hpi⟩ | ⟨h1, h2, h3⟩ <;> rcases h.cases hj with ⟨q, hq, hqj⟩ | ⟨k1, k2, k3⟩
    · have := h.emb'.inj p q b hp hq
      subst this
      rcases hpi with ⟨a1, a2⟩ | ⟨a1, a2⟩ <;> rcases hqj with ⟨b1, b2⟩ | ⟨b1, b2⟩
      · rw [a2] at b2; exact Option.some.inj b2
      · omega
      · omega
      · omega
    · exact absurd hp (h.own_not k3 k2 p)
    · exact absurd hq (h.own_not h3 h2 q)
    · exact h.emb.inj i j b h3 k3
  lt i b hi := by
    rcases h.cases hi with ⟨p, hp, _⟩ | ⟨_, _, h3⟩
    · exact h.emb'.lt p b hp
    · exact Nat.lt_of_lt_of_le (h.emb.lt i b h3) h.ext.size
  F b hF := by
    obtain ⟨h1, h2⟩ := h.emb.F b hF
    refine ⟨Nat.lt_of_lt_of_le h1 h.ext.size, fun i hi => ?_⟩
    rcases h.cases hi with ⟨p, hp, _⟩ | ⟨_, _, h3⟩
    · rcases h.ext.fresh p b hp with ⟨a, ha⟩ | hle
      · obtain ⟨c, _, hc⟩ := h.sub.back ha
        exact h2 c hc
      · omega
    · exact h2 i h3
  gl := h.emb.gl.ext ok h.extE

end
end Sh
end Go.Proofs.YtomdfaelgcefdaaGreatDoor
