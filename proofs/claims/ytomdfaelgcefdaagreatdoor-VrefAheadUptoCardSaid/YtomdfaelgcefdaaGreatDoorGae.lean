/- Sh13. -/
import Derived.Laws.BytesString
import Derived.Laws.RangeString
import Derived.Test.YtomdfaelgcefdaaGreatDoorGad
set_option maxRecDepth 100000
set_option maxHeartbeats 64000000
namespace Go.Proofs.YtomdfaelgcefdaaGreatDoor
open Go
namespace Sh
variable {K : Type} {El : K → Type} {S : Seat K El}
section
variable (ok : Ok S) {E : Env} {H : Heap K El} {w : World} {a : Act} {fr : Nat → AV K El}
variable {o : Oper} {k : AV K El → Heap K El → Prop} {next : Act → World → Prop} {Q : Exit → Act → World → Prop}
theorem op_un {op : UnOp} {t : TypeId} {X : Operand} (ho : o.op = .unOp op t X) (hE : Emb S E H w) {x : AV K El} (hx : VRv S E w x (a.eval X)) (hG : un op x fun v => k v H) (hn : Cont S E w a o next k) : o.wp S.P a w next Q := by
 unfold un at hG;split at hG
 · rename_i b;have ex := VR.bool_inv (show VR S E w _ _ from hx);exact wp_value (w' := w) (v := .bool !b) (by simp [execOp,ho,ex,Op.unary]) (hn _ _ _ _ _ hG hE Ext.refl (show VR S E w _ _ from .bool _))
 · rename_i kk n;have ex := VR.int_inv (show VR S E w _ _ from hx);exact wp_value (w' := w) (v := .int kk (kk.wrap (0 - n))) (by simp [execOp,ho,ex,Op.unary,Op.intArith]) (hn _ _ _ _ _ hG hE Ext.refl (show VR S E w _ _ from .int _ _))
 · exact hG.elim
theorem op_conv {s d : TypeId} {X : Operand} (ho : o.op = .convert s d X) (hE : Emb S E H w) {ks kd : IntKind} (hs : S.P.underlying s = some (.int ks)) (hd : S.P.underlying d = some (.int kd)) {kx : IntKind} {n : Int} (hx : VRv S E w (.int kx n) (a.eval X))
    (hG : k (.int kd (kd.wrap n)) H) (hn : Cont S E w a o next k) : o.wp S.P a w next Q := by
 have ex := VR.int_inv (show VR S E w _ _ from hx);refine wp_value (w' := w) (v := .int kd (kd.wrap n)) ?_ (hn _ _ _ _ _ hG hE Ext.refl (show VR S E w _ _ from .int _ _));simp [execOp,ho,ex,convert,run_underlying hs,run_underlying hd,Conv.intToInt]
theorem bds_of {lo hi mx : Option Operand} {xs : List (Opd K El)} (hxs : cAll (lo.toList ++ hi.toList ++ mx.toList) = some xs) (hf : FrR S E w fr a) (hm : mx.isSome = true → hi.isSome = true) :
    Bds lo.isSome hi.isSome mx.isSome (xs.map (opdV fr)) (lo.map a.eval) (hi.map a.eval) (mx.map a.eval) := by
 obtain ⟨h1,h2⟩ := cAll_sound hxs hf
 have get : ∀ (j : Nat) X kk l,(lo.toList ++ hi.toList ++ mx.toList)[j]? = some X → (xs.map (opdV fr))[j]? = some (.int kk l) → a.eval X = .int kk l := by
  intro j X kk l hX hl;rw [List.getElem?_map] at hl
  cases hq : xs[j]? with
  | none => rw [hq] at hl; simp at hl
  | some x =>
   rw [hq] at hl; simp at hl;have := h2 j X x hX hq;rw [hl] at this;exact VR.int_inv (show VR S E w _ _ from this)
 refine ⟨?_,?_,?_⟩
 · cases lo with
   | none => exact .inl ⟨rfl,rfl⟩
   | some X => exact .inr ⟨rfl,fun kk l h => by simp only [Option.map_some]; rw [get 0 X kk l (by simp) (by simpa using h)]⟩
 · cases hi with
   | none => exact .inl ⟨rfl,rfl⟩
   | some X => exact .inr ⟨rfl,fun kk l h => by simp only [Option.map_some]; rw [get lo.isSome.toNat X kk l (by cases lo <;> simp) (by simpa using h)]⟩
 · cases mx with
   | none => exact .inl ⟨rfl,rfl⟩
   | some X =>
    have hh := hm rfl;exact .inr ⟨rfl,hh,fun kk l h => by simp only [Option.map_some]; rw [get (lo.isSome.toNat + hi.isSome.toNat) X kk l (by cases lo <;> cases hi <;> simp at hh ⊢) (by simpa using h)]⟩
theorem op_b2s (ok : Ok S) {s d e : TypeId} {X : Operand} (ho : o.op = .convert s d X) (hE : Emb S E H w) {kk : K} (hs : S.P.underlying s = some (.slice e)) (he : S.P.underlying e = some (.int .u8)) (hd : S.P.underlying d = some .string)
    {x : AV K El} (hx : VRv S E w x (a.eval X)) (hG : content S H kk x fun ys => (S.size kk = 1 ∧ ∀ y ∈ ys,∃ n,S.enc kk y = [.int .u8 n]) ∧ k (.str (bytesS S kk ys)) H) (hn : Cont S E w a o next k) : o.wp S.P a w next Q := by
 have hpx : x.plain = true := by cases x <;> first | rfl | exact hG.elim
 obtain ⟨ys,cs,⟨⟨hsz,hall⟩,hG⟩,hs1⟩ := content_sound ok hE hG (hx.one_of hpx);obtain ⟨⟨hcl,hcv⟩,A,cap,hv,hA⟩ := hs1;rw [hsz,Nat.mul_one] at hcl
 have hcs : cs = (ys.map fun y => byteV (S.enc kk y)).map (Value.int .u8) := by
  refine List.ext_getElem (by simp [hcl]) fun j h1 h2 => ?_;have hj : j < ys.length := by omega
  obtain ⟨n,hn'⟩ := hall _ (List.getElem_mem hj);obtain ⟨v,k1,k2⟩ := hcv j _ (List.getElem?_eq_getElem hj) 0 (.int .u8 n) (by rw [hn']; rfl);rw [hsz,Nat.mul_one,Nat.add_zero,List.getElem?_eq_getElem h1] at k1;cases k2;simp only [List.getElem_map,hn',byteV];exact Option.some.inj k1
 have hb : bytesS S kk ys = (ys.map fun y => byteV (S.enc kk y)).foldl (fun r n => r.push (UInt8.ofNat n.toNat)) ByteArray.empty := by
  rw [List.foldl_map]; rfl
 refine wp_value (w' := w) (v := .string (bytesS S kk ys)) ?_ (hn _ _ _ _ _ hG hE Ext.refl (show VR S E w _ _ from .str _));simp only [execOp,ho,hv]
 cases A with
 | none =>
  have hc0 : cs = [] := by
   cases cs with
   | nil => rfl
   | cons c r => obtain ⟨b,oo,h,_⟩ := hA 0 c rfl; cases h
  have hy0 : ys = [] := List.eq_nil_of_length_eq_zero (by rw [← hcl,hc0]; rfl);subst hy0;simp [run_convert_bytes_string w s d e none _ cap hs he hd,Conv.bytesToString,bytesS]
 | some ad =>
  have hld := run_loadCells_list (P := S.P) w ad cs (fun j v hj => by
   obtain ⟨b,oo,h,h'⟩ := hA j v hj;cases h
   rw [add_lit]; exact h')
  rw [hcl,hcs] at hld;have := run_bytesToString w ad ys.length cap _ hld;simp [run_convert_bytes_string w s d e (some ad) _ cap hs he hd,this,hb]
theorem op_range (ok : Ok S) {t : TypeId} {X : Operand} (ho : o.op = .range t X) (ht : S.P.underlying t = some .string) (hE : Emb S E H w) {s : ByteArray} (hx : VRv S E w (.str s) (a.eval X)) (hG : k (.ptr H.length 0) (H ++ [.siter s 0])) (hn : Cont S E w a o next k) : o.wp S.P a w next Q := by
 have ex := VR.str_inv (show VR S E w _ _ from hx);have he := emb_pushO (w1 := w.iter s 0) ok hE (ob := .stringIter s 0) (o := .siter s 0) rfl rfl rfl rfl (World.iter_heap w s 0);have hxx : Ext E w ⟨E.ρ ++ [.blk w.heap.size],E.F⟩ (w.iter s 0) := ext_push (o := .stringIter s 0) rfl rfl rfl rfl;refine wp_value (w' := w.iter s 0) (v := .pointer (some ⟨w.heap.size,0,none⟩)) ?_ (hn _ _ _ _ _ hG he hxx (show VR S _ _ _ _ from VR.ptr (by simp only []; rw [← hE.len]; simp)));simp [execOp,ho,ex,run_range_string w t s ht]
theorem op_next (ok : Ok S) {X : Operand} (ho : o.op = .next X true) (hE : Emb S E H w) {i p : Nat} {s : ByteArray} (hx : VRv S E w (.ptr i 0) (a.eval X)) (hi : H[i]? = some (.siter s p))
    (hG : cas (decide (p < s.size)) (k (.tup [.bool true,.int .i64 p,.int .i32 (Utf8.decode s p).1]) (H.set i (.siter s (p + (Utf8.decode s p).2)))) (k (.tup [.bool false]) H)) (hn : Cont S E w a o next k) : o.wp S.P a w next Q := by
 have hv : VR S E w (.ptr i 0) (a.eval X) := hx;generalize hq : a.eval X = v at hv;rw [cas_iff] at hG
 cases hv with
 | ptr h1 =>
  rename_i b;have hb : w.heap[b]? = some (.stringIter s p) := hE.obj i _ _ hi h1
  by_cases hlt : p < s.size
  · refine wp_value (w' := { w with heap := w.heap.setIfInBounds b (.stringIter s (p + (Utf8.decode s p).2)) }) (v := .tuple #[.bool true,.int .i64 p,.int .i32 (Utf8.decode s p).1]) ?_ (hn _ _ _ _ _ (hG.1 (by simpa using hlt)) (emb_setIter ok hE h1 hb) (ext_setIter h1 hb) ?_)
    · simp [execOp,ho,hq,Instr.next,getObj,setObj,Sem.run,hb,hlt,Result.andThen,goInt]
    · refine ⟨_,rfl,rfl,fun j u hj => ?_⟩
      match j,hj with
      | 0,hj => cases hj; exact ⟨_,rfl,VR.bool _⟩
      | 1,hj => cases hj; exact ⟨_,rfl,VR.int _ _⟩
      | 2,hj => cases hj; exact ⟨_,rfl,VR.int _ _⟩
  · refine wp_value (w' := w) (v := .tuple #[.bool false]) ?_ (hn _ _ _ _ _ (hG.2 (by simpa using hlt)) hE Ext.refl ?_)
    · simp [execOp,ho,hq,Instr.next,getObj,Sem.run,hb,hlt]
    · refine ⟨_,rfl,rfl,fun j u hj => ?_⟩
      match j,hj with
      | 0,hj => cases hj; exact ⟨_,rfl,VR.bool _⟩
 | ptrGone h1 _ => exact (hE.obj i _ _ hi h1 : OR S E w (.siter s p) .gone).elim
include ok in
theorem op_slice {t : TypeId} {X : Operand} {lo hi mx : Option Operand} (ho : o.op = .slice t X lo hi mx) (hE : Emb S E H w) (hf : FrR S E w fr a) {kk : K} (hk : rowK S t = some kk) (hm : mx.isSome = true → hi.isSome = true)
    {xs : List (Opd K El)} (hxs : cAll (lo.toList ++ hi.toList ++ mx.toList) = some xs) {x : AV K El} (hx : VRv S E w x (a.eval X)) (hal : alive H x = true)
    (hG : slc kk lo.isSome hi.isSome mx.isSome x (xs.map (opdV fr)) fun v => k v H) (hn : Cont S E w a o next k) : o.wp S.P a w next Q := by
 have hp : x.plain = true := by cases x <;> first | rfl | exact hG.elim
 obtain ⟨r,rv,h1,h2,h3⟩ := slc_sound ok hE (rowK_some hk ok) hG (bds_of hxs hf hm) hal (hx.one_of hp);have hpr : r.plain = true ∨ ∃ us,r = .agg us ∨ r = .tup us := by cases r <;> simp [AV.plain]
 refine wp_value (w' := w) (v := rv) (by simp [execOp,ho,h2]) (hn _ _ _ _ _ h1 hE Ext.refl ?_)
 rcases hpr with hpr | ⟨us,rfl | rfl⟩
 · rw [VRv_plain hpr]; exact h3
 · cases h3
 · cases h3
theorem op_sslice {t : TypeId} {X : Operand} {lo hi : Option Operand} (ho : o.op = .slice t X lo hi none) (hE : Emb S E H w) (hf : FrR S E w fr a) (ht : S.P.underlying t = some .string)
    {xs : List (Opd K El)} (hxs : cAll (lo.toList ++ hi.toList) = some xs) {s : ByteArray} (hx : VRv S E w (.str s) (a.eval X))
    (hG : idx lo.isSome (if lo.isSome then (xs.map (opdV fr))[0]? else none) 0 fun l => idx hi.isSome (xs.map (opdV fr))[lo.isSome.toNat]? s.size fun h =>
     0 ≤ l ∧ l ≤ h ∧ h ≤ s.size ∧ k (.str (s.extract l.toNat h.toNat)) H) (hn : Cont S E w a o next k) : o.wp S.P a w next Q := by
 have ex := VR.str_inv (show VR S E w _ _ from hx);have hb := bds_of (mx := none) (lo := lo) (hi := hi) (xs := xs) (by simpa using hxs) hf (by simp)
 have hlo : ∀ {kk : Int → Prop},idx lo.isSome (if lo.isSome then (xs.map (opdV fr))[0]? else none) 0 kk → ∃ l,kk l ∧ ((lo.map a.eval = none ∧ l = 0) ∨ ∃ k,lo.map a.eval = some (.int k l)) := by
  intro kk hh
  rcases idx_sound hh with ⟨h1,h2⟩ | ⟨kd,n,h1,h2,h3⟩
  · rcases hb.plo with ⟨_,h5⟩ | ⟨h4,_⟩
    · exact ⟨0,h2,.inl ⟨h5,rfl⟩⟩
    · rw [h1] at h4; cases h4
  · rcases hb.plo with ⟨h4,_⟩ | ⟨_,h5⟩
    · rw [h1] at h4; cases h4
    · exact ⟨n,h3,.inr ⟨kd,h5 kd n h2⟩⟩
 have hhi : ∀ {d : Int} {kk : Int → Prop},idx hi.isSome (xs.map (opdV fr))[lo.isSome.toNat]? d kk → ∃ l,kk l ∧ ((hi.map a.eval = none ∧ (none : Option Value) = none ∧ l = d) ∨ ∃ k,hi.map a.eval = some (.int k l)) := by
  intro d kk hh
  rcases idx_sound hh with ⟨h1,h2⟩ | ⟨kd,n,h1,h2,h3⟩
  · rcases hb.phi with ⟨_,h5⟩ | ⟨h4,_⟩
    · exact ⟨d,h2,.inl ⟨h5,rfl,rfl⟩⟩
    · rw [h1] at h4; cases h4
  · rcases hb.phi with ⟨h4,_⟩ | ⟨_,h5⟩
    · rw [h1] at h4; cases h4
    · exact ⟨n,h3,.inr ⟨kd,h5 kd n h2⟩⟩
 obtain ⟨l,hG,h1⟩ := hlo hG;obtain ⟨h,hG,h2⟩ := hhi hG;obtain ⟨hl0,hlh,hhs,hk⟩ := hG;have hr := run_sliceBounds (P := S.P) w false (len := s.size) (cap := s.size) hl0 hlh hhs (Int.le_refl _) h1 h2 (.inl ⟨rfl,rfl⟩);refine wp_value (w' := w) (v := .string (s.extract l.toNat h.toNat)) ?_ (hn _ _ _ _ _ hk hE Ext.refl (show VR S E w _ _ from .str _));simp [execOp,ho,ex,Instr.sliceAt,Instr.slice,run_underlying ht,hr]
theorem fieldA_some {P : Program} {s : TypeId} {f off : Nat} {t : TypeId} (h : fieldA P s f = some (off,t)) : ∃ fs fd,P.underlying s = some (.struct fs) ∧ fs[f]? = some fd ∧ fd.offset = off ∧ fd.type = t := by
 unfold fieldA at h;split at h
 · rename_i fs hfs;split at h
   · rename_i fd hfd; simp at h; exact ⟨fs,fd,hfs,hfd,h.1,h.2⟩
   · cases h
 · cases h
theorem op_faddr {s : TypeId} {X : Operand} {f : Nat} (ho : o.op = .fieldAddr s X f) (hE : Emb S E H w) {off : Nat} {t : TypeId} (hfa : fieldA S.P s f = some (off,t)) {i : TypeInfo} (hi : S.P.info? t = some i) (h0 : i.size ≠ 0) {x : AV K El} (hx : VRv S E w x (a.eval X)) (hal : alive H x = true)
    (hG : faddrG off x fun v => k v H) (hn : Cont S E w a o next k) : o.wp S.P a w next Q := by
 obtain ⟨fs,fd,hfs,hfd,rfl,rfl⟩ := fieldA_some hfa
 have run : ∀ (b oo : Nat),a.eval X = .pointer (some ⟨b,oo,none⟩) → (execOp a.eval o).run S.P w = .ok (.value (.pointer (some ⟨b,oo + fd.offset,none⟩))) w := by
  intro b oo hv;simp [execOp,ho,hv,Instr.fieldAt,run_underlying hfs,hfd,Instr.sureAddr,fieldPlace,sizeOf,typeInfo,hi,h0,add_lit]
 cases x <;> first | exact hG.elim | skip
 case ptr j oo =>
  have hv := VRv.one_of hx rfl;generalize hq : a.eval X = v at hv
  cases hv with
  | ptr h => exact wp_value (run _ _ hq) (hn _ _ _ _ _ hG hE Ext.refl (show VR S E w _ _ from .ptr h))
  | ptrGone h _ => exact absurd h (alive_loc hE hal j (.inl ⟨_,rfl⟩))
 case eptr kk j e oo =>
  have hv := VRv.one_of hx rfl;generalize hq : a.eval X = v at hv
  cases hv with
  | eptr h => exact wp_value (run _ _ hq) (hn _ _ _ _ _ hG hE Ext.refl (show VR S E w _ _ from by rw [Nat.add_assoc]; exact .eptr h))
  | eptrGone h _ => exact absurd h (alive_loc hE hal j (.inr (.inl ⟨_,_,_,rfl⟩)))
 case iptr kk xs e oo =>
  have hv := VRv.one_of hx rfl;generalize hq : a.eval X = v at hv
  cases hv with
  | iptr b o' cs h1 h2 h3 => exact wp_value (run _ _ hq) (hn _ _ _ _ _ hG hE Ext.refl (show VR S E w _ _ from by rw [Nat.add_assoc,Nat.add_assoc]; exact .iptr b o' cs h1 h2 h3))
theorem op_field {s : TypeId} {X : Operand} {f : Nat} (ho : o.op = .field s X f) (hE : Emb S E H w) {off : Nat} {t : TypeId} (hfa : fieldA S.P s f = some (off,t)) {n : Nat} {ag : Bool} (hs : sizeA S.P t = some (n,ag)) {us : List (AV K El)} (hx : VRv S E w (.agg us) (a.eval X))
    (hle : off + n ≤ us.length) (hG : k (if ag then .agg ((us.drop off).take n) else (us.drop off).headD .junk) H) (hn : Cont S E w a o next k) : o.wp S.P a w next Q := by
 obtain ⟨fs,fd,hfs,hfd,rfl,rfl⟩ := fieldA_some hfa;obtain ⟨s1,s2,s3⟩ := sizeA_some hs w;obtain ⟨cs,ex,hl,hc⟩ := hx;have hcr : CellsR S E w us cs := ⟨hl,hc⟩
 cases ag with
 | true =>
  have hsub := hcr.sub fd.offset n;refine wp_value (w' := w) (v := .agg (cs.extract fd.offset (fd.offset + n))) ?_ (hn _ _ _ _ _ hG hE Ext.refl ⟨_,rfl,hsub.1,hsub.2⟩);simp [execOp,ho,ex,Instr.field,run_underlying hfs,hfd,asAgg,part,s1,s2]
 | false =>
  have h1 := s3 rfl;subst h1;have hlt : fd.offset < us.length := by omega
  obtain ⟨c,k1,k2,k3⟩ := hc fd.offset us[fd.offset] (List.getElem?_eq_getElem hlt);have hd : (us.drop fd.offset).headD .junk = us[fd.offset] := by rw [List.drop_eq_getElem_cons hlt]; rfl
  simp only [Bool.false_eq_true,if_false,hd] at hG;refine wp_value (w' := w) (v := c) ?_ (hn _ _ _ _ _ hG hE Ext.refl (VR2.to (k3.one_of k2)));simp [execOp,ho,ex,Instr.field,run_underlying hfs,hfd,asAgg,part,s2,k1]
include ok in
theorem op_iaddr {t : TypeId} {X I : Operand} (ho : o.op = .indexAddr t X I) (hE : Emb S E H w) {kk : K} (hk : rowK S t = some kk) {x : AV K El} {ki : IntKind} {n : Int} (hx : VRv S E w x (a.eval X)) (hi : VRv S E w (.int ki n) (a.eval I)) (hal : alive H x = true)
    (hG : iaddrG kk x n fun v => k v H) (hn : Cont S E w a o next k) : o.wp S.P a w next Q := by
 have ei := VR.int_inv (show VR S E w _ _ from hi);have ht := rowK_some hk ok;obtain ⟨ti,z,hti,hsz,hz,hzs,hby,hzz⟩ := ok.info kk
 have run : ∀ (b oo len cap : Nat),a.eval X = .slice (some ⟨b,oo,none⟩) len cap → 0 ≤ n → n < len → (execOp a.eval o).run S.P w = .ok (.value (.pointer (some ⟨b,oo + n.toNat * S.size kk,none⟩))) w := by
  intro b oo len cap hv h0 h1;simp [execOp,ho,hv,ei,Instr.indexAt,asIntOf,run_underlying ht,h0,h1,sizeOf,typeInfo,hti,hsz,add_lit]
 cases x <;> first | exact hG.elim | skip
 case own k' j lo len c =>
  obtain ⟨rfl,h0,h1,hG⟩ := hG;have hv := VRv.one_of hx rfl;generalize hq : a.eval X = v at hv
  cases hv with
  | own h2 h3 h4 h5 h6 h7 =>
   refine wp_value (run _ _ _ _ hq h0 h1) (hn _ _ _ _ _ hG hE Ext.refl (show VR S E w _ _ from ?_));rename_i b oo cap
   have hoo : oo + n.toNat * S.size k' = (lo + n.toNat) * S.size k' + 0 := by
    rcases h7 with h7 | ⟨_,h8,_⟩
    · rw [h7,Nat.add_mul,Nat.add_zero]
    · omega
   rw [hoo];exact .eptr h2
  | ownNil h => omega
  | ownGone h _ => exact absurd h (alive_loc hE hal j (.inr (.inr (.inl ⟨_,_,_,_,rfl⟩))))
 case imm k' xs =>
  obtain ⟨rfl,h0,h1,hG⟩ := hG;have hv := VRv.one_of hx rfl;generalize hq : a.eval X = v at hv
  cases hv with
  | immNil A cap hm => simp at h1; omega
  | imm b oo cap cs h2 h3 h4 h5 h6 =>
   refine wp_value (run _ _ _ _ hq h0 h1) (hn _ _ _ _ _ hG hE Ext.refl (show VR S E w _ _ from ?_));have := VR.iptr (S := S) (E := E) (w := w) (k := k') (xs := xs) (e := n.toNat) (off := 0) b oo cs h2 h5 h6;simpa using this
theorem op_sindex {t : TypeId} {X I : Operand} (ho : o.op = .index t X I) (hE : Emb S E H w) (ht : S.P.underlying t = some .string) {s : ByteArray} {ki : IntKind} {n : Int} (hx : VRv S E w (.str s) (a.eval X)) (hi : VRv S E w (.int ki n) (a.eval I))
    (h0 : 0 ≤ n) (h1 : n < s.size) (hG : k (.int .u8 (byteAt s n.toNat)) H) (hn : Cont S E w a o next k) : o.wp S.P a w next Q := by
 have ei := VR.int_inv (show VR S E w _ _ from hi);have ex := VR.str_inv (show VR S E w _ _ from hx);have hlt : n.toNat < s.size := by omega
 refine wp_value (w' := w) (v := .int .u8 (byteAt s n.toNat)) ?_ (hn _ _ _ _ _ hG hE Ext.refl (show VR S E w _ _ from .int _ _));simp [execOp,ho,ei,ex,Instr.index,asIntOf,run_underlying ht,h0,byteAt,hlt]
theorem op_extract {X : Operand} {j : Nat} (ho : o.op = .extract X j) (hE : Emb S E H w) {us : List (AV K El)} (hx : VRv S E w (.tup us) (a.eval X)) {u : AV K El} (hu : us[j]? = some u) (hG : k u H) (hn : Cont S E w a o next k) : o.wp S.P a w next Q := by
 obtain ⟨cs,ex,hl,hc⟩ := hx;obtain ⟨c,k1,k2⟩ := hc j u hu;exact wp_value (w' := w) (v := c) (by simp [execOp,ho,ex,Instr.extract,k1]) (hn _ _ _ _ _ hG hE Ext.refl k2.to)
theorem ntup_two {u : AV K El} {v : Value} (h : VRv S E w u v) (hu : u.ntup = true) : VR2 S E w u v := by
 cases u
 case tup us => simp [AV.ntup] at hu
 all_goals exact h
include ok in
theorem op_callW {f : Nat} {vals : List Value} {us : List (AV K El)} (hr : (execOp a.eval o).run S.P w = .ok (.enter f vals.toArray) w) (hE : Emb S E H w) (h1 : us.length = vals.length) (h2 : ∀ (j : Nat) u,us[j]? = some u → ∃ v,vals[j]? = some v ∧ VRv S E w u v)
    (hG : callG S f us H k) (hn : Cont S E w a o next k) : o.wp S.P a w next Q := by
 obtain ⟨ids,lent,R,hnd,hlt,hnt,hokT,hokH,hspec,hk⟩ := hG;have hsub : Sub S E H w ids lent (inEnv E ids lent) := .inEnv hE hnd hlt
 have hcall := hspec (inEnv E ids lent) w vals.toArray (loc_Emb ok hsub hokH) (by simp [h1]) (fun j u hu => by
  rw [List.getElem?_map] at hu
  cases hq : us[j]? with
  | none => rw [hq] at hu; simp at hu
  | some x =>
   rw [hq] at hu; simp at hu; subst hu;obtain ⟨v,hv1,hv⟩ := h2 j x hq;refine ⟨v,by simpa using hv1,loc2_VR ok hsub (okT_at hokT hq) (ntup_two hv ?_)⟩
   exact List.all_eq_true.1 hnt _ (mem_of_getElem? hq))
 unfold Oper.wp;rw [hr,Oper.upon_enter];refine hcall.mono fun e w' h => ?_;obtain ⟨v,r,Ec',H',rfl,hR,hrv,hemb,hext⟩ := h;obtain ⟨hpure,hkk⟩ := hk r H' hR;have hb : Back S E H w ids lent Ec' H' w' := ⟨hE,hnd,hlt,hemb,hext⟩;exact hn _ _ _ _ _ hkk (hb.embE ok (hpure.imp id (·.2))) hb.extE (hb.VRv ok (hpure.imp id (·.1)) hrv)
include ok in
theorem op_call {f : Nat} {args : List Operand} (hr : (execOp a.eval o).run S.P w = .ok (.enter f (args.map a.eval).toArray) w) (hE : Emb S E H w) (hf : FrR S E w fr a) {xs : List (Opd K El)} (hxs : cAll args = some xs)
    (hG : callG S f (xs.map (opdV fr)) H k) (hn : Cont S E w a o next k) : o.wp S.P a w next Q := by
 obtain ⟨h1,h2⟩ := cAll_sound hxs hf;refine op_callW ok hr hE (by simp [h1]) (fun j u hu => ?_) hG hn;rw [List.getElem?_map] at hu
 cases hq : xs[j]? with
 | none => rw [hq] at hu; simp at hu
 | some x =>
  rw [hq] at hu; simp at hu; subst hu;have hj : j < args.length := by rw [← h1]; exact (List.getElem?_eq_some_iff.1 hq).1
  exact ⟨a.eval args[j],by simp [hj],h2 j args[j] x (List.getElem?_eq_getElem hj) hq⟩
theorem run_call {c : Call} {f : Nat} (ho : o.op = .call c) (hcallee : c.callee = .value (.func f)) (hcl : callable S.P f = true) : (execOp a.eval o).run S.P w = .ok (.enter f (c.args.toList.map a.eval).toArray) w := by
 unfold callable at hcl
 cases hfn : S.P.funcs[f]? with
 | none => rw [hfn] at hcl; cases hcl
 | some fn =>
  rw [hfn] at hcl;simp only [Bool.and_eq_true,Bool.not_eq_true'] at hcl;have hnm : ¬ fn.name = "runtime.NumGoroutine" := by simpa using hcl.2
  have hb : ¬ fn.body = none := by intro h; simp [h] at hcl
  have hargs : (c.args.toList.map a.eval).toArray = c.args.map a.eval := by apply Array.ext'; simp
  rw [hargs];simp [execOp,ho,resolve,hcallee,Act.eval,Deferred.ofValue,invoke,callFunc,hfn,hnm,hb]
theorem run_callv {c : Call} {f t : Nat} {cs : Array Value} (ho : o.op = .call c) (hcallee : c.callee = .value (.tmp t)) (hv : a.eval (.tmp t) = .func (.func f) #[] cs) (hcl : callable S.P f = true) : (execOp a.eval o).run S.P w = .ok (.enter f (c.args.toList.map a.eval ++ cs.toList).toArray) w := by
 unfold callable at hcl
 cases hfn : S.P.funcs[f]? with
 | none => rw [hfn] at hcl; cases hcl
 | some fn =>
  rw [hfn] at hcl;simp only [Bool.and_eq_true,Bool.not_eq_true'] at hcl;have hnm : ¬ fn.name = "runtime.NumGoroutine" := by simpa using hcl.2
  have hb : ¬ fn.body = none := by intro h; simp [h] at hcl
  have hargs : (c.args.toList.map a.eval ++ cs.toList).toArray = c.args.map a.eval ++ cs := by apply Array.ext'; simp
  rw [hargs];simp [execOp,ho,resolve,hcallee,hv,Deferred.ofValue,invoke,callFunc,hfn,hnm,hb]
include ok in
theorem op_append {c : Call} (ho : o.op = .call c) (hcallee : c.callee = .builtin .append) {t : TypeId} (hat : c.argTypes.toList = [t,t]) {X Y : Operand} (hargs : c.args.toList = [X,Y]) (hE : Emb S E H w) {kk : K} (hk : rowK S t = some kk)
    {x y : AV K El} (hx : VRv S E w x (a.eval X)) (hy : VRv S E w y (a.eval Y)) (hG : content S H kk y fun ys => app S H kk x ys k) (hn : Cont S E w a o next k) : o.wp S.P a w next Q := by
 have hpy : y.plain = true := by cases y <;> first | rfl | exact hG.elim
 obtain ⟨ys,cs,hG,hs⟩ := content_sound ok hE hG (hy.one_of hpy)
 have hpx : x.plain = true := by cases x <;> first | rfl | exact hG.elim
 have h1 : c.argTypes = #[t,t] := by rw [← Array.toArray_toList (xs := c.argTypes),hat]
 have h2 : c.args = #[X,Y] := by rw [← Array.toArray_toList (xs := c.args),hargs]
 obtain ⟨r,H1,E1,w1,rv,hk',hr,he,hx',hv⟩ := app_sound ok hE (rowK_some hk ok) (ty := o.type) hG (hs.src ok (rowK_some hk ok)) (hx.one_of hpx);refine wp_value (w' := w1) (v := rv) ?_ (hn _ _ _ _ _ hk' he hx' ?_)
 · simp [execOp,ho,resolve,hcallee,invoke,builtin,h1,h2,hr]
 · have hpr : r.plain = true ∨ ∃ us,r = .agg us ∨ r = .tup us := by cases r <;> simp [AV.plain]
   rcases hpr with hpr | ⟨us,rfl | rfl⟩
   · rw [VRv_plain hpr]; exact hv
   · cases hv
   · cases hv
include ok in
theorem op_copy {c : Call} (ho : o.op = .call c) (hcallee : c.callee = .builtin .copy) {t t' : TypeId} (hat : c.argTypes.toList = [t,t']) {X Y : Operand} (hargs : c.args.toList = [X,Y]) (hE : Emb S E H w) {kk : K} (hk : rowK S t = some kk)
    {x y : AV K El} (hx : VRv S E w x (a.eval X)) (hy : VRv S E w y (a.eval Y)) (hG : content S H kk y fun ys => cpy S H kk x ys k) (hn : Cont S E w a o next k) : o.wp S.P a w next Q := by
 have hpy : y.plain = true := by cases y <;> first | rfl | exact hG.elim
 obtain ⟨ys,cs,hG,hs⟩ := content_sound ok hE hG (hy.one_of hpy)
 have hpx : x.plain = true := by cases x <;> first | rfl | exact hG.elim
 have h1 : c.argTypes = #[t,t'] := by rw [← Array.toArray_toList (xs := c.argTypes),hat]
 have h2 : c.args = #[X,Y] := by rw [← Array.toArray_toList (xs := c.args),hargs]
 obtain ⟨r,H1,w1,rv,hk',hr,he,hx',hv⟩ := cpy_sound ok hE (rowK_some hk ok) (ty := o.type) (sT := t') hG hs (hx.one_of hpx);refine wp_value (w' := w1) (v := rv) ?_ (hn _ _ _ _ _ hk' he hx' ?_)
 · simp [execOp,ho,resolve,hcallee,invoke,builtin,h1,h2,hr]
 · have hpr : r.plain = true ∨ ∃ us,r = .agg us ∨ r = .tup us := by cases r <;> simp [AV.plain]
   rcases hpr with hpr | ⟨us,rfl | rfl⟩
   · rw [VRv_plain hpr]; exact hv
   · cases hv
   · cases hv
theorem op_len {c : Call} (ho : o.op = .call c) (hcallee : c.callee = .builtin .len) {t : TypeId} (hat : c.argTypes.toList = [t]) {X : Operand} (hargs : c.args.toList = [X]) (hE : Emb S E H w) {str : Bool} (ht : (str = false ∧ ∃ e,S.P.underlying t = some (.slice e)) ∨ (str = true ∧ S.P.underlying t = some .string))
    {x : AV K El} (hx : VRv S E w x (a.eval X)) (hal : alive H x = true) (hG : lenI str x fun n => k (.int .i64 n) H) (hn : Cont S E w a o next k) : o.wp S.P a w next Q := by
 have h1 : c.argTypes = #[t] := by rw [← Array.toArray_toList (xs := c.argTypes),hat]
 have h2 : c.args = #[X] := by rw [← Array.toArray_toList (xs := c.args),hargs]
 have fin : ∀ n : Int,(Builtin.len_ #[t] o.type #[a.eval X]).run S.P w = .ok (.int .i64 n) w → k (.int .i64 n) H → o.wp S.P a w next Q := by
  intro n hr hk;refine wp_value (w' := w) (v := .int .i64 n) ?_ (hn _ _ _ _ _ hk hE Ext.refl (show VR S E w _ _ from .int _ _));simp [execOp,ho,resolve,hcallee,invoke,builtin,h1,h2,hr]
 rcases ht with ⟨rfl,e,he⟩ | ⟨rfl,he⟩
 · have slice : ∀ A n cap,a.eval X = .slice A n cap → (Builtin.len_ #[t] o.type #[a.eval X]).run S.P w = .ok (.int .i64 n) w := by
    intro A n cap hv;simp [Builtin.len_,run_underlying he,hv,goInt]
   cases x <;> first | exact hG.elim | skip
   case own k' j lo len c =>
    have hv := VRv.one_of hx rfl;generalize hq : a.eval X = v at hv
    cases hv with
    | own h2 h3 h4 h5 h6 h7 => exact fin _ (slice _ _ _ hq) hG
    | ownNil h => exact fin _ (slice _ _ _ hq) hG
    | ownGone h _ => exact absurd h (alive_loc hE hal j (.inr (.inr (.inl ⟨_,_,_,_,rfl⟩))))
   case imm k' xs =>
    have hv := VRv.one_of hx rfl;generalize hq : a.eval X = v at hv
    cases hv with
    | immNil A cap hm => exact fin _ (slice _ _ _ hq) hG
    | imm b oo cap cs h2 h3 h4 h5 h6 => exact fin _ (slice _ _ _ hq) hG
   case nils =>
    have hv := VRv.one_of hx rfl;generalize hq : a.eval X = v at hv;cases hv;exact fin _ (slice _ _ _ hq) hG
 · cases x <;> first | exact hG.elim | skip
   case str s =>
    have ex := VR.str_inv (show VR S E w _ _ from hx);exact fin _ (by simp [Builtin.len_,run_underlying he,ex,goInt]) hG
include ok in
theorem op_mkslice {t : TypeId} {L C : Operand} (ho : o.op = .makeSlice t L C) (hE : Emb S E H w) {kk : K} (hk : rowK S t = some kk) {kl kc : IntKind} {l c : Int} (hl : VRv S E w (.int kl l) (a.eval L)) (hc : VRv S E w (.int kc c) (a.eval C))
    (h0 : 0 ≤ l) (hlc : l = c) (hfit : fits S kk l.toNat) (hG : k (.own kk H.length 0 l.toNat .whole) (H ++ [.row kk (List.replicate l.toNat (S.zero kk))])) (hn : Cont S E w a o next k) : o.wp S.P a w next Q := by
 subst hlc;have el := VR.int_inv (show VR S E w _ _ from hl);have ec := VR.int_inv (show VR S E w _ _ from hc);obtain ⟨E1,w1,rv,h1,h2,h3,h4⟩ := make_sound ok hE (rowK_some hk ok) h0 hfit kl kc;exact wp_value (w' := w1) (v := rv) (by simp [execOp,ho,el,ec,h1]) (hn _ _ _ _ _ hG h2 h3 (show VR S E1 w1 _ _ from h4))
theorem ext_setObj {i b : Nat} {ob : Obj} (hi : E.ρ[i]? = some (.blk b)) (hs : w.shape? b = none) : Ext E w E { w with heap := w.heap.setIfInBounds b ob } where
 size := by simp
 keep b' _ hn := by
  have : b ≠ b' := fun e => hn i (e ▸ hi);simp only [];rw [Array.getElem?_setIfInBounds_ne this]
 shape b' s' h := by
  have : b ≠ b' := by
   rintro rfl;rw [hs] at h; cases h
  simp only [World.shape?] at h ⊢;rw [Array.getElem?_setIfInBounds_ne this];exact h
 mono _ _ h := .inl h
 fresh j b' h := .inl ⟨j,h⟩
 F := rfl
 os := rfl
 tape := rfl
 output := rfl
theorem emb_setObj (ok : Ok S) (h : Emb S E H w) {i b : Nat} {ob : Obj} {o' : AO K El} (hi : E.ρ[i]? = some (.blk b)) (hs : w.shape? b = none)
    (ho : OR S E { w with heap := w.heap.setIfInBounds b ob } o' (.blk b)) : Emb S E (H.set i o') { w with heap := w.heap.setIfInBounds b ob } where
 len := by simp [h.len]
 obj j q l hq hl := by
  by_cases hj : j = i
  · subst hj;rw [List.getElem?_set_self (by have := (List.getElem?_eq_some_iff.1 hq).1; simpa using this)] at hq;simp only [Option.some.injEq] at hq;subst hq;rw [hi] at hl;simp only [Option.some.injEq] at hl;subst hl;exact ho
  · rw [List.getElem?_set_ne (fun e => hj e.symm)] at hq;refine OR.mono ok (ext_setObj hi hs) (fun b' hb' => ?_) (h.obj j q l hq hl);subst hb';have : b ≠ b' := fun e => hj (h.inj j i b (e ▸ hl) hi);simp only [];rw [Array.getElem?_setIfInBounds_ne this]
 inj := h.inj
 lt j b' hj := by simpa using h.lt j b' hj
 F b' hF := by simpa using h.F b' hF
 gl := h.gl.ext ok (ext_setObj hi hs)
theorem bytes_data (a b : ByteArray) : (a == b) = (a.data == b.data) := by cases a; cases b; rfl
theorem bytes_eq {a b : ByteArray} (h : (a == b) = true) : a = b := by
 rw [bytes_data] at h;exact ByteArray.ext (eq_of_beq h)
theorem bytes_refl (a : ByteArray) : (a == a) = true := by rw [bytes_data]; simp
theorem bytes_beq (a b : ByteArray) : (a == b) = (a.toList == b.toList) := by
 rw [bytes_data,ByteArray.toList_eq,ByteArray.toList_eq]
 by_cases h : a.data = b.data
 · rw [h]; simp
 · have h2 : a.data.toList ≠ b.data.toList := fun e => h (Array.ext' e);rw [beq_eq_false_iff_ne.2 h,beq_eq_false_iff_ne.2 h2]
def keyD : CK → TypeDesc → Prop
 | .i,d => ∃ k,d = .int k
 | .s,d => d = .string
 | .b,d => d = .bool
theorem keyA_some {P : Program} {t : TypeId} {c : CK} (h : keyA P t = some c) : ∃ d,P.underlying t = some d ∧ keyD c d := by
 unfold keyA at h;split at h
 · rename_i k hk; cases h; exact ⟨_,hk,k,rfl⟩
 · rename_i hk; cases h; exact ⟨_,hk,rfl⟩
 · rename_i hk; cases h; exact ⟨_,hk,rfl⟩
 · cases h
theorem eq1_now {c : CK} {d : TypeDesc} (hd : keyD c d) {u v : AV K El} {x y : Value} {b : Bool} (hc : kd1 c u = true) (h : eq1 u v = some b) (hx : VR S E w u x) (hy : VR S E w v y) :
    Instr.sameNow d x y = some b ∧ (b = true → x = y) := by
 cases u <;> first | (simp [eq1] at h; done) | skip
 case bool p =>
  cases v <;> first | (simp [eq1] at h; done) | skip
  cases hx; cases hy;cases c <;> simp [kd1] at hc
  cases hd;simp only [eq1,Option.some.injEq] at h;subst h;exact ⟨rfl,fun hb => by rw [eq_of_beq hb]⟩
 case int kx p =>
  cases v <;> first | (simp [eq1] at h; done) | skip
  cases hx; cases hy;cases c <;> simp [kd1] at hc
  obtain ⟨kd,rfl⟩ := hd;simp only [eq1] at h;split at h
  · rename_i hk;subst hk;simp only [Option.some.injEq] at h;subst h;refine ⟨by simp [Instr.sameNow],fun hb => by rw [eq_of_beq hb]⟩
  · cases h
 case str s =>
  cases v <;> first | (simp [eq1] at h; done) | skip
  cases hx; cases hy;cases c <;> simp [kd1] at hc
  cases hd;simp only [eq1,Option.some.injEq] at h;subst h;refine ⟨by simp only [Instr.sameNow,bytes_beq],fun hb => ?_⟩;rw [← bytes_beq] at hb;rw [bytes_eq hb]
theorem mfind_now {c : CK} {d : TypeDesc} (hd : keyD c d) {key : AV K El} {kv : Value} (hc : kd1 c key = true) (hkv : VR S E w key kv) : ∀ (es : List (AV K El × AV K El)) (l : List MapEntry) (i : Nat) (r : Option (Nat × AV K El)),
    mfind key es i = some r → l.length = es.length → (∀ (j : Nat) e,es[j]? = some e → ∃ e',l[j]? = some e' ∧ VR S E w e.1 e'.key ∧ VR S E w e.2 e'.val) →
    (r = none ∧ Instr.findNow d kv l i = some none) ∨ ∃ j u e',r = some (j + i,u) ∧ Instr.findNow d kv l i = some (some (j + i,e'.val)) ∧ VR S E w u e'.val ∧ l[j]? = some e' ∧ e'.key = kv ∧ ∃ e,es[j]? = some e ∧ e.2 = u
 | [],l,i,r,h,hl,_ => by
  have : l = [] := List.eq_nil_of_length_eq_zero (by simpa using hl);subst this;simp only [mfind,Option.some.injEq] at h;exact .inl ⟨h.symm,rfl⟩
 | e :: es,[],i,r,h,hl,_ => by simp at hl
 | e :: es,e' :: l,i,r,h,hl,hes => by
  obtain ⟨e1,he1,hk1,hv1⟩ := hes 0 e rfl;simp only [List.getElem?_cons_zero,Option.some.injEq] at he1;subst he1;simp only [mfind] at h;split at h
  · rename_i hq;obtain ⟨h1,h2⟩ := eq1_now hd hc hq hkv hk1;simp only [Option.some.injEq] at h;subst h;refine .inr ⟨0,e.2,e',by simp,?_,hv1,rfl,(h2 rfl).symm,e,rfl,rfl⟩;simp [Instr.findNow,h1]
  · rename_i hq;obtain ⟨h1,_⟩ := eq1_now hd hc hq hkv hk1
    have hrest := mfind_now hd hc hkv es l (i + 1) r h (by simpa using hl) (fun j x hx => by
     obtain ⟨x',k1,k2,k3⟩ := hes (j + 1) x (by simpa using hx)
     exact ⟨x',by simpa using k1,k2,k3⟩)
    rcases hrest with ⟨k1,k2⟩ | ⟨j,u,x',k1,k2,k3,k4,k5,x,k6,k7⟩
    · exact .inl ⟨k1,by simp [Instr.findNow,h1,k2]⟩
    · refine .inr ⟨j + 1,u,x',?_,?_,k3,by simpa using k4,k5,x,by simpa using k6,k7⟩
      · rw [k1,Nat.add_right_comm,Nat.add_assoc]
      · simp only [Instr.findNow,h1,k2];rw [Nat.add_right_comm,Nat.add_assoc]
  · cases h
theorem run_checkKey_plain {P : Program} {c : CK} {d : TypeDesc} {t : TypeId} (ht : P.underlying t = some d) (hd : keyD c d) (em : Bool) (n : Nat) (v : Value) : (Instr.checkKey em (n + 1) t v).run P w = .ok () w := by
 cases c
 · cases hd; simp [Instr.checkKey,run_underlying ht]
 · obtain ⟨k,rfl⟩ := hd; simp [Instr.checkKey,run_underlying ht]
 · cases hd; simp [Instr.checkKey,run_underlying ht]
theorem kd1_plain {c : CK} {u : AV K El} (h : kd1 c u = true) : u.plain = true ∧ u.data = true := by
 cases c <;> cases u <;> first | exact ⟨rfl,rfl⟩ | simp [kd1] at h
theorem shape_map {b : Nat} {es : Array MapEntry} {ck : Nat} (h : w.heap[b]? = some (.map es ck)) : w.shape? b = none := by simp [World.shape?,h]
theorem zero1_some {P : Program} {t : TypeId} {z : AV K El} (h : zero1 P t = some z) (E : Env) (w : World) : ∃ zv,(zeroValue t).run P w = .ok zv w ∧ VR S E w z zv ∧ z.one = true := by
 unfold zero1 at h;split at h
 · rename_i i hi;split at h
   · rename_i zv hzv;obtain ⟨h1,h2⟩ := constAV_VR (S := S) h E w;exact ⟨zv,by simp [zeroValue,typeInfo,hi,hzv],h1,h2⟩
   · cases h
 · cases h
theorem op_mlook {t : TypeId} {X I : Operand} {ck : Bool} (ho : o.op = .lookup t X I ck) (hE : Emb S E H w) {kt et : TypeId} (ht : S.P.underlying t = some (.map kt et)) {c : CK} (hc : keyA S.P kt = some c) {z : AV K El} (hz : zero1 S.P et = some z)
    {i : Nat} {key : AV K El} {es : List (AV K El × AV K El)} (hx : VRv S E w (.mp i) (a.eval X)) (hk : VRv S E w key (a.eval I)) (hi : H[i]? = some (.map es)) (hkd : kd1 c key = true)
    (hG : match mfind key es 0 with
     | some none => k (if ck then .tup [z,.bool false] else z) H
     | some (some (_,v)) => k (if ck then .tup [v,.bool true] else v) H
     | none => False) (hn : Cont S E w a o next k) : o.wp S.P a w next Q := by
 obtain ⟨d,hd,hdd⟩ := keyA_some hc;obtain ⟨zv,hz1,hz2,hz3⟩ := zero1_some (S := S) hz E w;have hv : VR S E w (.mp i) (a.eval X) := hx;have hkp := kd1_plain hkd;have hkv : VR S E w key (a.eval I) := VRv.one_of hk hkp.1;generalize hq : a.eval X = v at hv;generalize hqi : a.eval I = kv at hkv
 cases hv with
 | mpGone h _ => exact (hE.obj i _ _ hi h : OR S E w (.map es) .gone).elim
 | mp h1 =>
  rename_i b;obtain ⟨es',clock,hb,hsz,hes⟩ : OR S E w (.map es) (.blk b) := hE.obj i _ _ hi h1;have hck : ∀ em,(Instr.checkKey em 10000 kt kv).run S.P w = .ok () w := fun em => run_checkKey_plain hd hdd em 9999 kv
  have fin : ∀ (r : AV K El) (rv : Value) (f : Bool),k (if ck then .tup [r,.bool f] else r) H → VR S E w r rv → r.one = true → (execOp a.eval o).run S.P w = .ok (.value (if ck then .tuple #[rv,.bool f] else rv)) w → o.wp S.P a w next Q := by
   intro r rv f hk hr hone hrun;refine wp_value hrun (hn _ _ _ _ _ hk hE Ext.refl ?_)
   cases ck with
   | false =>
    have := hr.one_of hone;exact this.to
   | true =>
    refine ⟨_,rfl,rfl,fun j u hj => ?_⟩
    match j,hj with
    | 0,hj => cases hj; exact ⟨_,rfl,hr.one_of hone⟩
    | 1,hj => cases hj; exact ⟨_,rfl,VR.bool _⟩
  cases hm : mfind key es 0 with
  | none => rw [hm] at hG; exact hG.elim
  | some r =>
   rw [hm] at hG
   rcases mfind_now hdd hkd hkv es es'.toList 0 r hm (by simpa using hsz) (fun j e he => let ⟨e',k1,k2,k3,k4,k5⟩ := hes j e he; ⟨e',by simpa using k1,k4,k5⟩) with ⟨rfl,hf⟩ | ⟨j,u,e',rfl,hf,hu,hj,_,e,he,heu⟩
   · refine fin z zv false hG hz2 hz3 ?_;simp [execOp,ho,hq,hqi,Instr.lookup,run_underlying ht,getObj,Sem.run,hb,hck,Instr.findKey,run_underlying hd,hf,hz1]
   · obtain ⟨x',_,_,hx3,_,_⟩ := hes j e he;refine fin u e'.val true hG hu (AV.data_one (heu ▸ hx3)) ?_;simp [execOp,ho,hq,hqi,Instr.lookup,run_underlying ht,getObj,Sem.run,hb,hck,Instr.findKey,run_underlying hd,hf]
theorem sameBits_refl {c : CK} {key : AV K El} {kv : Value} (hc : kd1 c key = true) (h : VR S E w key kv) (n : Nat) : Instr.sameBits n kv kv = true := by
 cases c <;> cases key <;> first | (simp [kd1] at hc; done) | (cases h; simp [Instr.sameBits,bytes_refl])
theorem op_mput (ok : Ok S) {t : TypeId} {M I X : Operand} (ho : o.op = .mapUpdate t M I X ∨ o.op = .insert t M I X) (hE : Emb S E H w) {c : CK} (hc : mapA S.P t = some c)
    {i : Nat} {key v : AV K El} {es : List (AV K El × AV K El)} (hm : VRv S E w (.mp i) (a.eval M)) (hk : VRv S E w key (a.eval I)) (hx : VRv S E w v (a.eval X)) (hi : H[i]? = some (.map es)) (hkd : kd1 c key = true) (hone : v.data = true)
    (hG : match mfind key es 0 with
     | some none => k .junk (H.set i (.map (es ++ [(key,v)])))
     | some (some (j,_)) => k .junk (H.set i (.map (es.set j (key,v))))
     | none => False) (hn : Cont S E w a o next k) : o.wp S.P a w next Q := by
 obtain ⟨kt,et,ht,hc⟩ : ∃ kt et,S.P.underlying t = some (.map kt et) ∧ keyA S.P kt = some c := by
  unfold mapA at hc;split at hc
  · exact ⟨_,_,‹_›,hc⟩
  · cases hc
 obtain ⟨d,hd,hdd⟩ := keyA_some hc;have hv : VR S E w (.mp i) (a.eval M) := hm;have hkp := kd1_plain hkd;have hkv : VR S E w key (a.eval I) := VRv.one_of hk hkp.1
 have hvp : v.plain = true := by cases v <;> first | rfl | simp [AV.data] at hone
 have hxv : VR S E w v (a.eval X) := VRv.one_of hx hvp;generalize hq : a.eval M = mv at hv;generalize hqi : a.eval I = kv at hkv;generalize hqx : a.eval X = xv at hxv
 cases hv with
 | mpGone h _ => exact (hE.obj i _ _ hi h : OR S E w (.map es) .gone).elim
 | mp h1 =>
  rename_i b;obtain ⟨es',clock,hb,hsz,hes⟩ : OR S E w (.map es) (.blk b) := hE.obj i _ _ hi h1;have hlt : b < w.heap.size := (Array.getElem?_eq_some_iff.1 hb).1;have hck : ∀ em,(Instr.checkKey em 10000 kt kv).run S.P w = .ok () w := fun em => run_checkKey_plain hd hdd em 9999 kv
  have hex : (execOp a.eval o).run S.P w = ((do Instr.mapUpdate t (.map (some b)) kv xv; pure .skip : Sem Next)).run S.P w := by
   rcases ho with ho | ho <;> simp [execOp,ho,hq,hqi,hqx]
  have fin : ∀ (ob : Obj) (es2 : List (AV K El × AV K El)),k .junk (H.set i (.map es2)) → OR S E { w with heap := w.heap.setIfInBounds b ob } (.map es2) (.blk b) →
      (Instr.mapUpdate t (.map (some b)) kv xv).run S.P w = .ok () { w with heap := w.heap.setIfInBounds b ob } → o.wp S.P a w next Q := by
   intro ob es2 hk2 hor hrun;unfold Oper.wp;rw [hex];simp only [Sem.run_bind,hrun,Result.andThen_ok,Sem.run_pure];exact hn _ _ _ _ _ hk2 (emb_setObj ok hE h1 (shape_map hb) hor) (ext_setObj h1 (shape_map hb)) (VR.junk _)
  cases hf : mfind key es 0 with
  | none => rw [hf] at hG; exact hG.elim
  | some r =>
   rw [hf] at hG
   rcases mfind_now hdd hkd hkv es es'.toList 0 r hf (by simpa using hsz) (fun j e he => let ⟨e',k1,k2,k3,k4,k5⟩ := hes j e he; ⟨e',by simpa using k1,k4,k5⟩) with ⟨rfl,hfn⟩ | ⟨j,u,e',rfl,hfn,hu,hj,hek,e,he,heu⟩
   · refine fin (.map (es'.push { key := kv,val := xv,born := clock }) (clock + 1)) _ hG ⟨es'.push { key := kv,val := xv,born := clock },clock + 1,by simp [hlt],by simp [hsz],fun j e he => ?_⟩ ?_
     · have hx : Ext E w E { w with heap := w.heap.setIfInBounds b (.map (es'.push { key := kv,val := xv,born := clock }) (clock + 1)) } := ext_setObj h1 (shape_map hb)
       rcases Nat.lt_or_ge j es.length with hjl | hjl
       · rw [List.getElem?_append_left hjl] at he;obtain ⟨e',k1,k2,k3,k4,k5⟩ := hes j e he;exact ⟨e',by rw [Array.getElem?_push]; simp [show ¬ j = es'.size by omega,k1],k2,k3,VR.mono ok hx k4,VR.mono ok hx k5⟩
       · rw [List.getElem?_append_right hjl] at he
         cases hz : j - es.length with
         | succ n => rw [hz] at he; simp at he
         | zero =>
          rw [hz] at he;simp only [List.getElem?_cons_zero,Option.some.injEq] at he;subst he;exact ⟨{ key := kv,val := xv,born := clock },by rw [Array.getElem?_push]; simp [show j = es'.size by omega],hkp.2,hone,VR.mono ok hx hkv,VR.mono ok hx hxv⟩
     · simp [Instr.mapUpdate,run_underlying ht,getObj,setObj,Sem.run,hb,hck,Instr.findKey,run_underlying hd,hfn,Result.andThen]
   · have hkey : (Instr.keyThatStays ((es'[j]?.map fun x => x.key).getD kv) kv).run S.P w = .ok kv w := by
      have : es'[j]? = some e' := by simpa using hj
      simp only [this,Option.map_some,Option.getD_some,hek];simp [Instr.keyThatStays,sameBits_refl hkd hkv]
     simp only [Nat.add_zero] at hG;refine fin (.map (es'.modify j fun e => { e with key := kv,val := xv }) clock) _ hG ⟨es'.modify j fun e => { e with key := kv,val := xv },clock,by simp [hlt],by simp [hsz],fun q e2 he2 => ?_⟩ ?_
     · have hx : Ext E w E { w with heap := w.heap.setIfInBounds b (.map (es'.modify j fun e => { e with key := kv,val := xv }) clock) } := ext_setObj h1 (shape_map hb)
       by_cases hqj : q = j
       · subst hqj;rw [List.getElem?_set_self (List.getElem?_eq_some_iff.1 he).1] at he2;simp only [Option.some.injEq] at he2;subst he2;have : es'[q]? = some e' := by simpa using hj
         exact ⟨{ e' with key := kv,val := xv },by rw [Array.getElem?_modify]; simp [this],hkp.2,hone,VR.mono ok hx hkv,VR.mono ok hx hxv⟩
       · rw [List.getElem?_set_ne (Ne.symm hqj)] at he2;obtain ⟨e3,k1,k2,k3,k4,k5⟩ := hes q e2 he2;exact ⟨e3,by rw [Array.getElem?_modify]; simp [Ne.symm hqj,k1],k2,k3,VR.mono ok hx k4,VR.mono ok hx k5⟩
     · simp [Instr.mapUpdate,run_underlying ht,getObj,setObj,Sem.run,hb,hck,Instr.findKey,run_underlying hd,hfn,Result.andThen,hkey]
theorem op_mkmap (ok : Ok S) {t : TypeId} {R : Option Operand} (ho : o.op = .makeMap t R) (hR : R = none ∨ (∃ kk n,R = some (.const (.int kk n))) ∧ ∃ p q,S.P.underlying t = some (.map p q)) (hE : Emb S E H w)
    (hG : k (.mp H.length) (H ++ [.map []])) (hn : Cont S E w a o next k) : o.wp S.P a w next Q := by
 have he := emb_pushO (w1 := w.alloc (.map #[] 0)) ok hE (ob := .map #[] 0) (o := .map []) rfl rfl rfl rfl ⟨#[],0,heap_alloc_new w _,rfl,fun j e h => by simp at h⟩;have hx : Ext E w ⟨E.ρ ++ [.blk w.heap.size],E.F⟩ (w.alloc (.map #[] 0)) := ext_push (o := .map #[] 0) rfl rfl rfl rfl;refine wp_value (w' := w.alloc (.map #[] 0)) (v := .map (some w.heap.size)) ?_ (hn _ _ _ _ _ hG he hx (show VR S _ _ _ _ from VR.mp (by simp only []; rw [← hE.len]; simp)))
 rcases hR with rfl | ⟨⟨kk,n,rfl⟩,p,q,hpq⟩
 · simp [execOp,ho,Instr.makeMap,newObj,Sem.run,Result.andThen]
 · simp [execOp,ho,Instr.makeMap,newObj,Sem.run,Result.andThen,Act.eval,run_underlying hpq,asInt,asIntOf]
theorem op_rangeM (ok : Ok S) {t : TypeId} {X : Operand} (ho : o.op = .range t X) {kt et : TypeId} (ht : S.P.underlying t = some (.map kt et)) (hE : Emb S E H w) {i : Nat} {es : List (AV K El × AV K El)} (hx : VRv S E w (.mp i) (a.eval X)) (hi : H[i]? = some (.map es))
    (hG : k (.ptr H.length 0) (H ++ [.miter i])) (hn : Cont S E w a o next k) : o.wp S.P a w next Q := by
 have hv : VR S E w (.mp i) (a.eval X) := hx;generalize hq : a.eval X = v at hv
 cases hv with
 | mpGone h _ => exact (hE.obj i _ _ hi h : OR S E w (.map es) .gone).elim
 | mp h1 =>
  rename_i b;obtain ⟨es',clock,hb,hsz,hes⟩ : OR S E w (.map es) (.blk b) := hE.obj i _ _ hi h1
  have he := emb_pushO (w1 := w.alloc (.mapIter (some b) clock #[] clock)) ok hE (ob := .mapIter (some b) clock #[] clock) (o := .miter i) rfl rfl rfl rfl
   ⟨b,clock,clock,heap_alloc_new w _,.inl (by simp only []; rw [List.getElem?_append_left (List.getElem?_eq_some_iff.1 h1).1]; exact h1)⟩
  have hx : Ext E w ⟨E.ρ ++ [.blk w.heap.size],E.F⟩ (w.alloc (.mapIter (some b) clock #[] clock)) := ext_push (o := .mapIter (some b) clock #[] clock) rfl rfl rfl rfl;refine wp_value (w' := w.alloc (.mapIter (some b) clock #[] clock)) (v := .pointer (some ⟨w.heap.size,0,none⟩)) ?_ (hn _ _ _ _ _ hG he hx (show VR S _ _ _ _ from VR.ptr (by simp only []; rw [← hE.len]; simp)));simp [execOp,ho,hq,Instr.range,run_underlying ht,getObj,newObj,Sem.run,hb,Result.andThen]
theorem op_nextM {X : Operand} (ho : o.op = .next X false) (hE : Emb S E H w) {i j : Nat} (hx : VRv S E w (.ptr j 0) (a.eval X)) (hj : H[j]? = some (.miter i)) (hi : H[i]? = some (.map []))
    (hG : k (.tup [.bool false]) H) (hn : Cont S E w a o next k) : o.wp S.P a w next Q := by
 have hv : VR S E w (.ptr j 0) (a.eval X) := hx;generalize hq : a.eval X = v at hv
 cases hv with
 | ptrGone h1 _ => exact (hE.obj j _ _ hj h1 : OR S E w (.miter i) .gone).elim
 | ptr h1 =>
  rename_i b;obtain ⟨m,since,clock,hb,hm⟩ : OR S E w (.miter i) (.blk b) := hE.obj j _ _ hj h1
  rcases hm with hm | hm
  · obtain ⟨es',ck,hb',hsz,_⟩ : OR S E w (.map []) (.blk m) := hE.obj i _ _ hi hm;have hes : es' = #[] := Array.eq_empty_of_size_eq_zero (by simpa using hsz);subst hes;refine wp_value (w' := w) (v := .tuple #[.bool false]) ?_ (hn _ _ _ _ _ hG hE Ext.refl ?_)
    · simp [execOp,ho,hq,Instr.next,getObj,Sem.run,hb,hb',Go.choose,Question.forced]
    · refine ⟨_,rfl,rfl,fun j u hj => ?_⟩
      match j,hj with
      | 0,hj => cases hj; exact ⟨_,rfl,VR.bool _⟩
  · exact (hE.obj i _ _ hi hm : OR S E w (.map []) .gone).elim
theorem op_aindex {t e : TypeId} {len : Nat} {X I : Operand} (ho : o.op = .index t X I) (hE : Emb S E H w) (ht : S.P.underlying t = some (.array len e)) {n : Nat} {ag : Bool} (hs : sizeA S.P e = some (n,ag)) {us : List (AV K El)} {ki : IntKind} {m : Int}
    (hx : VRv S E w (.agg us) (a.eval X)) (hi : VRv S E w (.int ki m) (a.eval I)) (h0 : 0 ≤ m) (h1 : m < len) (hle : m.toNat * n + n ≤ us.length)
    (hG : k (if ag then .agg ((us.drop (m.toNat * n)).take n) else (us.drop (m.toNat * n)).headD .junk) H) (hn : Cont S E w a o next k) : o.wp S.P a w next Q := by
 have ei := VR.int_inv (show VR S E w _ _ from hi);obtain ⟨s1,s2,s3⟩ := sizeA_some hs w;obtain ⟨cs,ex,hl,hc⟩ := hx;have hcr : CellsR S E w us cs := ⟨hl,hc⟩
 cases ag with
 | true =>
  have hsub := hcr.sub (m.toNat * n) n;refine wp_value (w' := w) (v := .agg (cs.extract (m.toNat * n) (m.toNat * n + n))) ?_ (hn _ _ _ _ _ hG hE Ext.refl ⟨_,rfl,hsub.1,hsub.2⟩);simp [execOp,ho,ex,ei,Instr.index,asIntOf,run_underlying ht,h0,h1,part,s1,s2]
 | false =>
  have hn1 := s3 rfl;subst hn1;have hlt : m.toNat * 1 < us.length := by omega
  obtain ⟨c,k1,k2,k3⟩ := hc (m.toNat * 1) us[m.toNat * 1] (List.getElem?_eq_getElem hlt);have hd : (us.drop (m.toNat * 1)).headD .junk = us[m.toNat * 1] := by rw [List.drop_eq_getElem_cons hlt]; rfl
  simp only [Bool.false_eq_true,if_false,hd] at hG;refine wp_value (w' := w) (v := c) ?_ (hn _ _ _ _ _ hG hE Ext.refl (VR2.to (k3.one_of k2)));rw [Nat.mul_one] at k1;simp [execOp,ho,ex,ei,Instr.index,asIntOf,run_underlying ht,h0,h1,part,s1,s2,k1]
theorem capsOf_some : ∀ {vs : List (AV K El)} {is : List (Option Nat)},capsOf vs = some is → vs = is.map capV
 | [],is,h => by simp only [capsOf,Option.some.injEq] at h; subst h; rfl
 | v :: vs,is,h => by
  simp only [capsOf] at h;split at h
  · rename_i o os ho hos;simp only [Option.some.injEq] at h;subst h
    have hv : v = capV o := by
     unfold capOf at ho
     split at ho <;> first | (cases ho; rfl) | cases ho
    rw [List.map_cons,← hv,← capsOf_some hos]
  · cases h
theorem clo_of (hE : Emb S E H w) {is : List (Option Nat)} {cs : Array Value} (hl : cs.size = is.length) (hal : (is.map capV).all (alive H) = true) (hc : ∀ (j : Nat) u,(is.map (capV (K := K) (El := El)))[j]? = some u → ∃ v,cs[j]? = some v ∧ VR S E w u v) (f : Nat) :
    VR S E w (.clo f is) (.func (.func f) #[] cs) := by
 refine .clo hl (fun j hj => ?_) fun j i hj => ?_
 · obtain ⟨v,h1,h2⟩ := hc j .nilp (by rw [List.getElem?_map,hj]; rfl);cases h2;exact h1
 · obtain ⟨v,h1,h2⟩ := hc j (.ptr i 0) (by rw [List.getElem?_map,hj]; rfl);have ha : alive H (AV.ptr i 0 : AV K El) = true := List.all_eq_true.1 hal _ (List.mem_map.2 ⟨some i,mem_of_getElem? hj,rfl⟩)
   cases h2 with
   | ptr h => exact ⟨_,h,h1⟩
   | ptrGone h _ => exact absurd h (alive_loc hE ha i (.inl ⟨_,rfl⟩))
theorem op_mkfn {f : Nat} {cap : Array Operand} (ho : o.op = .makeFunc (.func f) #[] cap) (hE : Emb S E H w) (hf : FrR S E w fr a) {xs : List (Opd K El)} (hxs : cAll cap.toList = some xs) {is : List (Option Nat)} (hc : capsOf (xs.map (opdV fr)) = some is)
    (hal : (xs.map (opdV fr)).all (alive H) = true) (hG : k (cloOf f is) H) (hn : Cont S E w a o next k) : o.wp S.P a w next Q := by
 obtain ⟨h1,h2⟩ := cAll_sound hxs hf;have hcs := capsOf_some hc
 have hlen : xs.length = is.length := by
  have := congrArg List.length hcs;simpa using this
 have hsz : cap.size = xs.length := by rw [h1]; simp
 have hv : VR S E w (cloOf f is) (.func (.func f) #[] (cap.map a.eval)) := by
  cases is with
  | nil =>
   have : cap = #[] := Array.eq_empty_of_size_eq_zero (by rw [hsz,hlen]; rfl);subst this;simpa [cloOf] using VR.fn f
  | cons o os =>
   refine clo_of hE (by simp [hsz,hlen]) (hcs ▸ hal) (fun j u hu => ?_) f;rw [← hcs,List.getElem?_map] at hu
   cases hq : xs[j]? with
   | none => rw [hq] at hu; simp at hu
   | some x =>
    rw [hq] at hu; simp at hu; subst hu;have hj : j < cap.size := by have := (List.getElem?_eq_some_iff.1 hq).1; omega
    have hvx := h2 j cap[j] x (by simp [hj]) hq;refine ⟨a.eval cap[j],by simp [hj],?_⟩;have hm : opdV fr x ∈ (o :: os).map (capV (K := K) (El := El)) := by rw [← hcs]; exact List.mem_map.2 ⟨x,mem_of_getElem? hq,rfl⟩
    obtain ⟨q,_,hqq⟩ := List.mem_map.1 hm;refine VRv.one_of hvx ?_;rw [← hqq];cases q <;> rfl
 refine wp_value (w' := w) (v := .func (.func f) #[] (cap.map a.eval)) (by simp [execOp,ho,Instr.makeFunc]) (hn _ _ _ _ _ hG hE Ext.refl ?_);have hp : (cloOf f is : AV K El).plain = true := by cases is <;> rfl
 rw [VRv_plain hp];exact hv
theorem arrA_some {t : TypeId} {kk : K} {n : Nat} (h : arrA S t = some (kk,n)) : ∃ z,zeroA S.P t = some z ∧ z = (List.replicate n (S.enc kk (S.zero kk))).flatten := by
 unfold arrA at h;split at h
 · rename_i m e z ht hz;split at h
   · split at h
     · rename_i hq;simp only [Option.some.injEq,Prod.mk.injEq] at h;obtain ⟨rfl,rfl⟩ := h;exact ⟨z,hz,eqCL_eq hq⟩
     · cases h
   · cases h
 · cases h
theorem flat_get {α : Type} {l : List α} {sz : Nat} (hl : l.length = sz) : ∀ (n j t : Nat),j < n → t < sz → (List.replicate n l).flatten[j * sz + t]? = l[t]?
 | 0,j,t,hj,_ => by omega
 | n + 1,0,t,_,ht => by
  rw [List.replicate_succ,List.flatten_cons,List.getElem?_append_left (by omega)];simp
 | n + 1,j + 1,t,hj,ht => by
  rw [List.replicate_succ,List.flatten_cons,List.getElem?_append_right (by rw [Nat.succ_mul]; omega)];rw [show (j + 1) * sz + t - l.length = j * sz + t by rw [Nat.succ_mul]; omega];exact flat_get hl n j t (by omega) ht
theorem op_alloca (ok : Ok S) {t : TypeId} (ho : o.op = .alloc t) (hE : Emb S E H w) {kk : K} {n : Nat} (ha : arrA S t = some (kk,n)) (hG : k (.ptr H.length 0) (H ++ [.arr kk (List.replicate n (S.zero kk))])) (hn : Cont S E w a o next k) : o.wp S.P a w next Q := by
 obtain ⟨z,hz,hzz⟩ := arrA_some ha;obtain ⟨i,zv,hi,hzv,hm⟩ := zeroA_some hz;obtain ⟨hc1,hc2⟩ := const_cells (S := S) (E := E) (w := w) hm;have hx : Ext E w ⟨E.ρ ++ [.blk w.heap.size],E.F⟩ (w.alloc (.cells zv.cells t)) := ext_push (w1 := w.alloc (.cells zv.cells t)) (o := .cells zv.cells t) rfl rfl rfl rfl;have hl := ok.enc_len kk (S.zero kk)
 have he := emb_push (w1 := w.alloc (.cells zv.cells t)) ok hE (c := zv.cells) (e := t) (o := .arr kk (List.replicate n (S.zero kk))) rfl rfl rfl rfl (by
  refine ⟨zv.cells,t,heap_alloc_new w _,by rw [hc1,hzz]; simp [hl],fun j x hx' t' u hu => ?_⟩;have hj : j < n := by have := (List.getElem?_eq_some_iff.1 hx').1; simpa using this
  have hxe : x = S.zero kk := by
   rw [List.getElem?_replicate,if_pos hj] at hx';exact (Option.some.inj hx').symm
  subst hxe;have ht := (List.getElem?_eq_some_iff.1 hu).1;rw [hl] at ht;have hzu : z[j * S.size kk + t']? = some u := by rw [hzz,flat_get hl n j t' hj ht]; exact hu
  obtain ⟨c,k1,_,k3⟩ := hc2 _ u hzu
  exact ⟨c,k1,VR.mono ok hx k3⟩)
 refine wp_value (w' := w.alloc (.cells zv.cells t)) (v := .pointer (some ⟨w.heap.size,0,none⟩)) ?_ (hn _ _ _ _ _ hG he hx (show VR S _ _ _ _ from VR.ptr (by simp only []; rw [← hE.len]; simp)));simp [execOp,ho,Instr.alloc,zeroValue,typeInfo,hi,hzv,newVar,newRow]
theorem op_slicea (ok : Ok S) {t e : TypeId} {X Y : Operand} (ho : o.op = .slice t X none (some Y) none) (hE : Emb S E H w) {kk : K} {n : Nat} (ht : S.P.underlying t = some (.array n e)) (hk : S.kd e = some kk) {i : Nat} {xs : List (El kk)} {ky : IntKind} {h : Int}
    (hx : VRv S E w (.ptr i 0) (a.eval X)) (hy : VRv S E w (.int ky h) (a.eval Y)) (hi : H[i]? = some (.arr kk xs)) (hl : xs.length = n) (h0 : 0 ≤ h) (h1 : h ≤ n) (hm : n ≤ maxLen) (hG : k (.own kk i 0 h.toNat .unk) H) (hn : Cont S E w a o next k) : o.wp S.P a w next Q := by
 have ey := VR.int_inv (show VR S E w _ _ from hy);have hv : VR S E w (.ptr i 0) (a.eval X) := hx;generalize hq : a.eval X = v at hv
 cases hv with
 | ptrGone hg _ => exact (hE.obj i _ _ hi hg : OR S E w (.arr kk xs) .gone).elim
 | ptr hb =>
  rename_i b;have ha : S.P.arrayLen t = n := by simp [Program.arrayLen,ht]
  have hr := run_sliceAt_array_h (P := S.P) w t ⟨b,0,none⟩ (by simp [Program.arrayLen,Program.elem,ht]) ky h h0 (by rw [ha]; exact h1);refine wp_value (w' := w) (v := .slice (some ⟨b,0,none⟩) h.toNat n) ?_ (hn _ _ _ _ _ hG hE Ext.refl (show VR S E w _ _ from .own hb (by simp) (by simp) (by omega) hm (.inl (by simp))));have hee : S.P.elem t = e := by simp [Program.elem,ht]
  obtain ⟨ti,z,hti,htsz,_⟩ := ok.info kk;have hso : (sizeOf (S.P.elem t)).run S.P w = .ok (S.size kk) w := by rw [hee,ok.kd e kk hk]; simp [sizeOf,typeInfo,hti,htsz]
  simp [execOp,ho,hq,ey,hr,ha,hso,slicedAt,Addr.add_lit]
theorem rowOf_cells (ok : Ok S) {kk : K} : ∀ {us : List (AV K El)} {ys : List (El kk)} {cs : List Value},rowOf S kk us = some ys → S.size kk = 1 → us.length = cs.length → (∀ (j : Nat) u,us[j]? = some u → u.plain = true ∧ ∃ c,cs[j]? = some c ∧ VR S E w u c) → CellsOf S E w kk ys cs := by
 intro us ys cs h hs hl hc;obtain ⟨h1,h2⟩ := rowOf_get h;refine ⟨by rw [hs,Nat.mul_one,h1,hl],fun j y hy t u hu => ?_⟩;have hj : j < us.length := by rw [← h1]; exact (List.getElem?_eq_some_iff.1 hy).1
 obtain ⟨hp,c,k1,k2⟩ := hc j us[j] (List.getElem?_eq_getElem hj);have h3 := ok.unc_enc kk _ _ (h2 j us[j] y (List.getElem?_eq_getElem hj) hy)
 have hcl : us[j].cells = [us[j]] := by
  generalize us[j] = q at hp
  cases q <;> first | rfl | simp [AV.plain] at hp
 rw [h3,hcl] at hu
 cases t with
 | succ t => simp at hu
 | zero =>
  simp only [List.getElem?_cons_zero,Option.some.injEq] at hu;subst hu;exact ⟨c,by rw [hs,Nat.mul_one,Nat.add_zero]; exact k1,k2⟩
theorem op_appendS (ok : Ok S) {c : Call} (ho : o.op = .call c) (hcallee : c.callee = .builtin .append) {t t' : TypeId} (hat : c.argTypes.toList = [t,t']) {X Y : Operand} (hargs : c.args.toList = [X,Y]) (hE : Emb S E H w) {kk : K} (hk : rowK S t = some kk) (ht' : strA S.P t' = true)
    {x : AV K El} {b : ByteArray} (hx : VRv S E w x (a.eval X)) (hy : VRv S E w (.str b) (a.eval Y)) {ys : List (El kk)} (hr : rowOf S kk (bytesV b) = some ys) (hG : app S H kk x ys k) (hn : Cont S E w a o next k) : o.wp S.P a w next Q := by
 have ey := VR.str_inv (show VR S E w _ _ from hy)
 have hpx : x.plain = true := by cases x <;> first | rfl | exact hG.elim
 have h1 : c.argTypes = #[t,t'] := by rw [← Array.toArray_toList (xs := c.argTypes),hat]
 have h2 : c.args = #[X,Y] := by rw [← Array.toArray_toList (xs := c.args),hargs]
 have hu : S.P.underlying t' = some .string := by
  unfold strA at ht';split at ht'
  · assumption
  · cases ht'
 have hsz : S.size kk = 1 ∨ ys = [] := by
  cases ys with
  | nil => exact .inr rfl
  | cons y ys =>
   left;obtain ⟨h3,h4⟩ := rowOf_get hr;have hl : 0 < (bytesV (K := K) (El := El) b).length := by rw [← h3]; simp
   have h5 := ok.unc_enc kk _ _ (h4 0 (bytesV (K := K) (El := El) b)[0] y (List.getElem?_eq_getElem hl) rfl);have h6 := ok.enc_len kk y;rw [← h6,h5];simp [bytesV,AV.cells]
 have hbl : (bytesV (K := K) (El := El) b).length = b.size := by simp [bytesV]
 have hyl : ys.length = b.size := by rw [(rowOf_get hr).1,hbl]
 have hsrc : SrcOf S E w kk ys t' (.string b) (b.data.toList.map fun x => Value.int .u8 (x.toNat : Int)) := by
  refine ⟨?_,.inr hu,fun W => by simp [Builtin.lenOf,hyl],fun W _ => ?_⟩
  · rcases hsz with hsz | rfl
    · refine rowOf_cells ok hr hsz (by simp [bytesV]) fun j u hj => ?_;simp only [bytesV,List.getElem?_map] at hj
      cases hq : b.data.toList[j]? with
      | none => rw [hq] at hj; simp at hj
      | some q =>
       rw [hq] at hj;simp only [Option.map_some,Option.some.injEq] at hj;subst hj;exact ⟨rfl,_,by rw [List.getElem?_map,hq]; rfl,.int _ _⟩
    · have : b.data.toList = [] := List.eq_nil_of_length_eq_zero (by simpa using hyl.symm);rw [this];exact .nil
  · rw [hyl];simp only [Builtin.firstCells];simp;apply Array.ext';rw [Array.toList_map]
 obtain ⟨r,H1,E1,w1,rv,hk',hr',he,hx',hv⟩ := app_sound ok hE (rowK_some hk ok) (ty := o.type) hG hsrc (hx.one_of hpx);refine wp_value (w' := w1) (v := rv) ?_ (hn _ _ _ _ _ hk' he hx' ?_)
 · simp [execOp,ho,resolve,hcallee,invoke,builtin,h1,h2,hr',ey]
 · have hpr : r.plain = true ∨ ∃ us,r = .agg us ∨ r = .tup us := by cases r <;> simp [AV.plain]
   rcases hpr with hpr | ⟨us,rfl | rfl⟩
   · rw [VRv_plain hpr]; exact hv
   · cases hv
   · cases hv
include ok in
theorem op_sound {p : Prim K El} {xs : List (Opd K El)} (hc : compileOp S o = some (p,xs)) (hE : Emb S E H w) (hf : FrR S E w fr a) (hG : G S p (xs.map (opdV fr)) H k) (hn : Cont S E w a o next k) : o.wp S.P a w next Q := by
 unfold compileOp at hc;split at hc
 ·
  rename_i X ho
  cases hx : (cAll [X] : Option (List (Opd K El))) with
  | none => rw [hx] at hc; simp at hc
  | some us =>
   rw [hx] at hc; simp at hc; obtain ⟨rfl,rfl⟩ := hc;obtain ⟨u,rfl,hu⟩ := cAll1 hx hf;exact op_mov (.inl ho) hE hu hG hn
 · rename_i X ho
   cases hx : (cAll [X] : Option (List (Opd K El))) with
   | none => rw [hx] at hc; simp at hc
   | some us =>
    rw [hx] at hc; simp at hc; obtain ⟨rfl,rfl⟩ := hc;obtain ⟨u,rfl,hu⟩ := cAll1 hx hf;exact op_mov (.inr ho) hE hu hG hn
 · rename_i C A B ho
   cases hx : (cAll [C,A,B] : Option (List (Opd K El))) with
   | none => rw [hx] at hc; simp at hc
   | some us =>
    rw [hx] at hc; simp at hc; obtain ⟨rfl,rfl⟩ := hc;obtain ⟨u,v,t,rfl,hu,hv,ht⟩ := cAll3 hx hf;simp only [List.map_cons,List.map_nil] at hG;generalize opdV fr u = cu at hG hu
    cases cu <;> first | exact hG.elim | skip
    exact op_pick ho hE hu hv ht hG hn
 · rename_i t ho;split at hc
   · rename_i kk n ha;simp at hc; obtain ⟨rfl,rfl⟩ := hc;exact op_alloca ok ho hE ha hG hn
   · cases hz : (zeroA S.P t : Option (List (AV K El))) with
     | none => rw [hz] at hc; simp at hc
     | some z =>
      rw [hz] at hc; simp at hc; obtain ⟨rfl,rfl⟩ := hc;exact op_alloc ok ho hE hz hG hn
 · rename_i t X ho
   cases hx : (cAll [X] : Option (List (Opd K El))) with
   | none => rw [hx] at hc; simp at hc
   | some us =>
    rw [hx] at hc; simp at hc; obtain ⟨rfl,rfl⟩ := hc;obtain ⟨u,rfl,hu⟩ := cAll1 hx hf;exact op_box ok ho hE hu hG.1 hG.2 hn
 · rename_i t parts ho;split at hc
   · rename_i places z us hp hz hx
     cases hps : (parts.toList.map (·.1)).mapM (fun i => places[i]?) with
     | none => rw [hps] at hc; simp at hc
     | some ps =>
      rw [hps] at hc; simp at hc; obtain ⟨rfl,rfl⟩ := hc;simp only [G] at hG;split at hG
      · rename_i cs hl;exact op_build ho hE hf hp hz hx hps hl hG hn
      · exact hG.elim
   · cases hc
 · rename_i t len parts ho;split at hc
   · rename_i kk us hk hx;split at hc
     · rename_i hcond;simp at hc; obtain ⟨rfl,rfl⟩ := hc;simp only [G] at hG;split at hG
       · rename_i ys hr;exact op_mkrow ok ho hE hf hk hx hcond.1 hcond.2 hr hG hn
       · exact hG.elim
     · cases hc
   · cases hc
 · rename_i t A ho;split at hc
   · rename_i n ag hs
     cases hx : (cAll [A] : Option (List (Opd K El))) with
     | none => rw [hx] at hc; simp at hc
     | some us =>
      rw [hx] at hc; simp at hc; obtain ⟨rfl,rfl⟩ := hc;obtain ⟨u,rfl,hu⟩ := cAll1 hx hf;exact op_load ok ho hE hs hu hG hn
   · cases hc
 · rename_i t A X ho;split at hc
   · rename_i n ag hs
     cases hx : (cAll [A,X] : Option (List (Opd K El))) with
     | none => rw [hx] at hc; simp at hc
     | some us =>
      rw [hx] at hc; simp at hc; obtain ⟨rfl,rfl⟩ := hc;obtain ⟨u,v,rfl,hu,hv⟩ := cAll2 hx hf;exact op_store ok ho hE hs hu hv hG.1 hG.2.1 hG.2.2 hn
   · cases hc
 · rename_i X ho
   cases hx : (cAll [X] : Option (List (Opd K El))) with
   | none => rw [hx] at hc; simp at hc
   | some us =>
    rw [hx] at hc; simp at hc; obtain ⟨rfl,rfl⟩ := hc;obtain ⟨u,rfl,hu⟩ := cAll1 hx hf;exact op_nilck ho hE hu hG.1 hG.2 hn
 · rename_i op t X Y yt ho;split at hc
   · rename_i c htc
     cases hx : (cAll [X,Y] : Option (List (Opd K El))) with
     | none => rw [hx] at hc; simp at hc
     | some us =>
      rw [hx] at hc; simp at hc; obtain ⟨rfl,rfl⟩ := hc;obtain ⟨u,v,rfl,hu,hv⟩ := cAll2 hx hf;exact op_bin ho hE htc hu hv hG.1 hG.2.1 hG.2.2 hn
   · cases hc
 · rename_i op t X ho
   cases hx : (cAll [X] : Option (List (Opd K El))) with
   | none => rw [hx] at hc; simp at hc
   | some us =>
    rw [hx] at hc; simp at hc; obtain ⟨rfl,rfl⟩ := hc;obtain ⟨u,rfl,hu⟩ := cAll1 hx hf;exact op_un ho hE hu hG hn
 · rename_i s d X ho;split at hc
   · rename_i ks kd hs hd
     cases hx : (cAll [X] : Option (List (Opd K El))) with
     | none => rw [hx] at hc; simp at hc
     | some us =>
      rw [hx] at hc; simp at hc; obtain ⟨rfl,rfl⟩ := hc;obtain ⟨u,rfl,hu⟩ := cAll1 hx hf;simp only [List.map_cons,List.map_nil] at hG;generalize opdV fr u = cu at hG hu
      cases cu <;> first | exact hG.elim | skip
      exact op_conv ho hE hs hd hu hG hn
   · rename_i e hs hd;split at hc
     · rename_i kk _ he
       cases hx : (cAll [X] : Option (List (Opd K El))) with
       | none => rw [hx] at hc; simp at hc
       | some us =>
        rw [hx] at hc; simp at hc; obtain ⟨rfl,rfl⟩ := hc;obtain ⟨u,rfl,hu⟩ := cAll1 hx hf;exact op_b2s ok ho hE hs he hd hu hG hn
     · cases hc
   · cases hc
 · rename_i t X ho;split at hc
   · rename_i ht
     cases hx : (cAll [X] : Option (List (Opd K El))) with
     | none => rw [hx] at hc; simp at hc
     | some us =>
      rw [hx] at hc; simp at hc; obtain ⟨rfl,rfl⟩ := hc;obtain ⟨u,rfl,hu⟩ := cAll1 hx hf;simp only [List.map_cons,List.map_nil] at hG;generalize opdV fr u = cu at hG hu
      cases cu <;> first | exact hG.elim | skip
      exact op_range ok ho ht hE hu hG hn
   · rename_i kt et ht
     cases hx : (cAll [X] : Option (List (Opd K El))) with
     | none => rw [hx] at hc; simp at hc
     | some us =>
      rw [hx] at hc; simp at hc; obtain ⟨rfl,rfl⟩ := hc;obtain ⟨u,rfl,hu⟩ := cAll1 hx hf;simp only [List.map_cons,List.map_nil] at hG;generalize opdV fr u = cu at hG hu
      cases cu <;> first | exact hG.elim | skip
      simp only [G] at hG;split at hG
      · rename_i es hi;exact op_rangeM ok ho ht hE hu hi hG hn
      · exact hG.elim
   · cases hc
 · rename_i X ho
   cases hx : (cAll [X] : Option (List (Opd K El))) with
   | none => rw [hx] at hc; simp at hc
   | some us =>
    rw [hx] at hc; simp at hc; obtain ⟨rfl,rfl⟩ := hc;obtain ⟨u,rfl,hu⟩ := cAll1 hx hf;simp only [List.map_cons,List.map_nil] at hG;generalize opdV fr u = cu at hG hu
    cases cu <;> first | exact hG.elim | skip
    case ptr i off =>
     cases off with
     | succ off => exact hG.elim
     | zero =>
      simp only [G] at hG;split at hG
      · rename_i s p hi;exact op_next ok ho hE hu hi hG hn
      · exact hG.elim
 · rename_i X ho
   cases hx : (cAll [X] : Option (List (Opd K El))) with
   | none => rw [hx] at hc; simp at hc
   | some us =>
    rw [hx] at hc; simp at hc; obtain ⟨rfl,rfl⟩ := hc;obtain ⟨u,rfl,hu⟩ := cAll1 hx hf;simp only [List.map_cons,List.map_nil] at hG;generalize opdV fr u = cu at hG hu
    cases cu <;> first | exact hG.elim | skip
    case ptr i off =>
     cases off with
     | succ off => exact hG.elim
     | zero =>
      simp only [G] at hG;split at hG
      · rename_i i' hi;split at hG
        · rename_i hi';exact op_nextM ho hE hu hi hi' hG hn
        · exact hG.elim
      · exact hG.elim
 · rename_i t X lo hi mx ho;split at hc
   · rename_i kk hk;split at hc
     · rename_i hm;simp only [cAll] at hc
       cases hx : (cOpd X : Option (Opd K El)) with
       | none => rw [hx] at hc; simp at hc
       | some u =>
        cases hxs : (cAll (lo.toList ++ hi.toList ++ mx.toList) : Option (List (Opd K El))) with
        | none => rw [hx,hxs] at hc; simp at hc
        | some us =>
         rw [hx,hxs] at hc; simp at hc; obtain ⟨rfl,rfl⟩ := hc;exact op_slice ok ho hE hf hk hm hxs (cOpd_sound hx hf) hG.1 hG.2 hn
     · cases hc
   · split at hc
     · rename_i ht;simp only [cAll] at hc
       cases hx : (cOpd X : Option (Opd K El)) with
       | none => rw [hx] at hc; simp at hc
       | some u =>
        cases hxs : (cAll (lo.toList ++ hi.toList) : Option (List (Opd K El))) with
        | none => rw [hx,hxs] at hc; simp at hc
        | some us =>
         rw [hx,hxs] at hc; simp at hc; obtain ⟨rfl,rfl⟩ := hc;have hu := cOpd_sound hx hf;simp only [List.map_cons] at hG;generalize opdV fr u = cu at hG hu
         cases cu <;> first | exact hG.elim | skip
         exact op_sslice ho hE hf ht hxs hu hG hn
     · rename_i n e ht;split at hc
       · rename_i kk Y hk
         cases hx : (cAll [X,Y] : Option (List (Opd K El))) with
         | none => rw [hx] at hc; simp at hc
         | some us =>
          rw [hx] at hc; simp at hc; obtain ⟨rfl,rfl⟩ := hc;obtain ⟨u,v,rfl,hu,hv⟩ := cAll2 hx hf;simp only [List.map_cons,List.map_nil] at hG;generalize opdV fr u = cu at hG hu
          cases cu <;> first | exact hG.elim | skip
          case ptr i off =>
           cases off with
           | succ off => exact hG.elim
           | zero =>
            generalize opdV fr v = cv at hG hv
            cases cv <;> first | exact hG.elim | skip
            simp only [G] at hG;split at hG
            · rename_i kr xs hi;obtain ⟨rfl,hl,h0,h1,hm,hG⟩ := hG;exact op_slicea ok ho hE ht hk hu hv hi hl h0 h1 hm hG hn
            · exact hG.elim
       · cases hc
     · cases hc
 · rename_i s X f ho;split at hc
   · rename_i off t hfa;split at hc
     · rename_i i hi;split at hc
       · cases hc
       · rename_i h0
         cases hx : (cAll [X] : Option (List (Opd K El))) with
         | none => rw [hx] at hc; simp at hc
         | some us =>
          rw [hx] at hc; simp at hc; obtain ⟨rfl,rfl⟩ := hc;obtain ⟨u,rfl,hu⟩ := cAll1 hx hf;exact op_faddr ho hE hfa hi h0 hu hG.1 hG.2 hn
     · cases hc
   · cases hc
 · rename_i s X f ho;split at hc
   · rename_i off t hfa;split at hc
     · rename_i n ag hs
       cases hx : (cAll [X] : Option (List (Opd K El))) with
       | none => rw [hx] at hc; simp at hc
       | some us =>
        rw [hx] at hc; simp at hc; obtain ⟨rfl,rfl⟩ := hc;obtain ⟨u,rfl,hu⟩ := cAll1 hx hf;simp only [List.map_cons,List.map_nil] at hG;generalize opdV fr u = cu at hG hu
        cases cu <;> first | exact hG.elim | skip
        exact op_field ho hE hfa hs hu hG.1 hG.2 hn
     · cases hc
   · cases hc
 · rename_i t X I ho;split at hc
   · rename_i kk hk
     cases hx : (cAll [X,I] : Option (List (Opd K El))) with
     | none => rw [hx] at hc; simp at hc
     | some us =>
      rw [hx] at hc; simp at hc; obtain ⟨rfl,rfl⟩ := hc;obtain ⟨u,v,rfl,hu,hv⟩ := cAll2 hx hf;simp only [List.map_cons,List.map_nil] at hG;generalize opdV fr v = cv at hG hv
      cases cv <;> first | exact hG.elim | skip
      exact op_iaddr ok ho hE hk hu hv hG.1 hG.2 hn
   · cases hc
 · rename_i t X I ho;split at hc
   · rename_i ht
     cases hx : (cAll [X,I] : Option (List (Opd K El))) with
     | none => rw [hx] at hc; simp at hc
     | some us =>
      rw [hx] at hc; simp at hc; obtain ⟨rfl,rfl⟩ := hc;obtain ⟨u,v,rfl,hu,hv⟩ := cAll2 hx hf;simp only [List.map_cons,List.map_nil] at hG;generalize opdV fr u = cu at hG hu
      cases cu <;> first | exact hG.elim | skip
      generalize opdV fr v = cv at hG hv
      cases cv <;> first | exact hG.elim | skip
      exact op_sindex ho hE ht hu hv hG.1 hG.2.1 hG.2.2 hn
   · rename_i len e ht;split at hc
     · rename_i n ag hs
       cases hx : (cAll [X,I] : Option (List (Opd K El))) with
       | none => rw [hx] at hc; simp at hc
       | some us =>
        rw [hx] at hc; simp at hc; obtain ⟨rfl,rfl⟩ := hc;obtain ⟨u,v,rfl,hu,hv⟩ := cAll2 hx hf;simp only [List.map_cons,List.map_nil] at hG;generalize opdV fr u = cu at hG hu
        cases cu <;> first | exact hG.elim | skip
        generalize opdV fr v = cv at hG hv
        cases cv <;> first | exact hG.elim | skip
        exact op_aindex ho hE ht hs hu hv hG.1 hG.2.1 hG.2.2.1 hG.2.2.2 hn
     · cases hc
   · cases hc
 · rename_i X j ho
   cases hx : (cAll [X] : Option (List (Opd K El))) with
   | none => rw [hx] at hc; simp at hc
   | some us =>
    rw [hx] at hc; simp at hc; obtain ⟨rfl,rfl⟩ := hc;obtain ⟨u,rfl,hu⟩ := cAll1 hx hf;simp only [List.map_cons,List.map_nil] at hG;generalize opdV fr u = cu at hG hu
    cases cu <;> first | exact hG.elim | skip
    simp only [G] at hG;split at hG
    · rename_i v hv;exact op_extract ho hE hu hv hG hn
    · exact hG.elim
 · rename_i c ho;split at hc
   · rename_i f hcallee;split at hc
     · rename_i hcl
       cases hx : (cAll c.args.toList : Option (List (Opd K El))) with
       | none => rw [hx] at hc; simp at hc
       | some us =>
        rw [hx] at hc; simp at hc; obtain ⟨rfl,rfl⟩ := hc;exact op_call ok (run_call ho hcallee hcl) hE hf hx hG hn
     · cases hc
   · rename_i t hcallee
     cases hx : (cAll c.args.toList : Option (List (Opd K El))) with
     | none => rw [hx] at hc; simp at hc
     | some us =>
      rw [hx] at hc; simp at hc; obtain ⟨rfl,rfl⟩ := hc;have hu := hf t;simp only [List.map_cons,opdV] at hG;generalize fr t = cu at hG hu
      cases cu <;> first | exact hG.elim | skip
      · rename_i f
        have hfv : a.eval (.tmp t) = .func (.func f) #[] #[] := by
         have hv := VRv.one_of hu rfl;simp only [Act.eval];generalize a.tmps.getD t undef = v at hv;cases hv; rfl
        exact op_call ok (by simpa using run_callv ho hcallee hfv hG.1) hE hf hx hG.2 hn
      · rename_i f is;obtain ⟨hal,hcl,hG⟩ := hG;have hv := VRv.one_of hu rfl;generalize hq : a.tmps.getD t undef = v at hv;obtain ⟨h1,h2⟩ := cAll_sound hx hf
        cases hv with
        | cloGone hi h _ => exact absurd h (alive_loc hE hal _ (.inr (.inr (.inr (.inr ⟨_,_,rfl,hi⟩)))))
        | @clo _ _ cs hl hn0 hp =>
         refine op_callW ok (run_callv ho hcallee hq hcl) hE (by simp [h1,hl]) (fun j u hu' => ?_) hG hn
         rcases Nat.lt_or_ge j us.length with hj | hj
         · rw [List.getElem?_append_left (by simpa using hj),List.getElem?_map,List.getElem?_eq_getElem hj] at hu';simp only [Option.map_some,Option.some.injEq] at hu';subst hu';have hj' : j < c.args.toList.length := by omega
           exact ⟨a.eval c.args.toList[j],by rw [List.getElem?_append_left (by simpa using hj'),List.getElem?_map,List.getElem?_eq_getElem hj']; rfl,h2 j _ _ (List.getElem?_eq_getElem hj') (List.getElem?_eq_getElem hj)⟩
         · rw [List.getElem?_append_right (by simpa using hj),List.getElem?_map] at hu'
           cases hq' : is[j - us.length]? with
           | none => simp [hq'] at hu'
           | some oo =>
            simp [hq'] at hu';subst hu'
            have hr : (c.args.toList.map a.eval ++ cs.toList)[j]? = cs[j - us.length]? := by
             rw [List.getElem?_append_right (by simp; simp at h1; omega)];simp [h1]
            cases oo with
            | none => exact ⟨_,by rw [hr]; exact hn0 _ hq',show VR S E w _ _ from .nilp⟩
            | some i =>
             obtain ⟨b,hb,hc'⟩ := hp _ i hq';exact ⟨_,by rw [hr]; exact hc',show VR S E w _ _ from .ptr hb⟩
   · rename_i hcallee;split at hc
     · rename_i t t' X Y hat hargs;split at hc
       · rename_i kk hk;split at hc
         · rename_i htt;subst htt
           cases hx : (cAll [X,Y] : Option (List (Opd K El))) with
           | none => rw [hx] at hc; simp at hc
           | some us =>
            rw [hx] at hc; simp at hc; obtain ⟨rfl,rfl⟩ := hc;obtain ⟨u,v,rfl,hu,hv⟩ := cAll2 hx hf;exact op_append ok ho hcallee hat hargs hE hk hu hv hG hn
         · split at hc
           · rename_i hst
             cases hx : (cAll [X,Y] : Option (List (Opd K El))) with
             | none => rw [hx] at hc; simp at hc
             | some us =>
              rw [hx] at hc; simp at hc; obtain ⟨rfl,rfl⟩ := hc;obtain ⟨u,v,rfl,hu,hv⟩ := cAll2 hx hf;simp only [List.map_cons,List.map_nil] at hG;generalize opdV fr v = cv at hG hv
              cases cv <;> first | exact hG.elim | skip
              simp only [G] at hG;split at hG
              · rename_i ys hr;exact op_appendS ok ho hcallee hat hargs hE hk hst hu hv hr hG hn
              · exact hG.elim
           · cases hc
       · cases hc
     · cases hc
   · rename_i hcallee;split at hc
     · rename_i t X hat hargs;split at hc
       · rename_i e he
         cases hx : (cAll [X] : Option (List (Opd K El))) with
         | none => rw [hx] at hc; simp at hc
         | some us =>
          rw [hx] at hc; simp at hc; obtain ⟨rfl,rfl⟩ := hc;obtain ⟨u,rfl,hu⟩ := cAll1 hx hf;exact op_len ho hcallee hat hargs hE (.inl ⟨rfl,e,he⟩) hu hG.1 hG.2 hn
       · rename_i he
         cases hx : (cAll [X] : Option (List (Opd K El))) with
         | none => rw [hx] at hc; simp at hc
         | some us =>
          rw [hx] at hc; simp at hc; obtain ⟨rfl,rfl⟩ := hc;obtain ⟨u,rfl,hu⟩ := cAll1 hx hf;exact op_len ho hcallee hat hargs hE (.inr ⟨rfl,he⟩) hu hG.1 hG.2 hn
       · cases hc
     · cases hc
   · rename_i hcallee;split at hc
     · rename_i t t' X Y hat hargs;split at hc
       · rename_i kk hk
         cases hx : (cAll [X,Y] : Option (List (Opd K El))) with
         | none => rw [hx] at hc; simp at hc
         | some us =>
          rw [hx] at hc; simp at hc; obtain ⟨rfl,rfl⟩ := hc;obtain ⟨u,v,rfl,hu,hv⟩ := cAll2 hx hf;exact op_copy ok ho hcallee hat hargs hE hk hu hv hG hn
       · cases hc
     · cases hc
   · cases hc
 · rename_i t L C ho;split at hc
   · rename_i kk hk
     cases hx : (cAll [L,C] : Option (List (Opd K El))) with
     | none => rw [hx] at hc; simp at hc
     | some us =>
      rw [hx] at hc; simp at hc; obtain ⟨rfl,rfl⟩ := hc;obtain ⟨u,v,rfl,hu,hv⟩ := cAll2 hx hf;simp only [List.map_cons,List.map_nil] at hG;generalize opdV fr u = cu at hG hu
      cases cu <;> first | exact hG.elim | skip
      generalize opdV fr v = cv at hG hv
      cases cv <;> first | exact hG.elim | skip
      exact op_mkslice ok ho hE hk hu hv hG.1 hG.2.1 hG.2.2.1 hG.2.2.2 hn
   · cases hc
 · rename_i f first cap ho;split at hc
   · rename_i hcl;obtain ⟨_,rfl⟩ := hcl
     cases hx : (cAll cap.toList : Option (List (Opd K El))) with
     | none => rw [hx] at hc; simp at hc
     | some us =>
      rw [hx] at hc; simp at hc; obtain ⟨rfl,rfl⟩ := hc;simp only [G] at hG;split at hG
      · rename_i is his;exact op_mkfn ho hE hf hx his hG.1 hG.2 hn
      · exact hG.elim
   · cases hc
 · rename_i t ho;simp at hc; obtain ⟨rfl,rfl⟩ := hc;exact op_mkmap ok ho (.inl rfl) hE hG hn
 · rename_i t kk n ho;split at hc
   · rename_i p q hpq;simp at hc; obtain ⟨rfl,rfl⟩ := hc;exact op_mkmap ok ho (.inr ⟨⟨_,_,rfl⟩,_,_,hpq⟩) hE hG hn
   · cases hc
 · rename_i t X I ck ho;split at hc
   · rename_i kt et ht;split at hc
     · rename_i c z hcz hz
       cases hx : (cAll [X,I] : Option (List (Opd K El))) with
       | none => rw [hx] at hc; simp at hc
       | some us =>
        rw [hx] at hc; simp at hc; obtain ⟨rfl,rfl⟩ := hc;obtain ⟨u,v,rfl,hu,hv⟩ := cAll2 hx hf;simp only [List.map_cons,List.map_nil] at hG;generalize opdV fr u = cu at hG hu
        cases cu <;> first | exact hG.elim | skip
        simp only [G] at hG;split at hG
        · rename_i es hi;exact op_mlook ho hE ht hcz hz hu hv hi hG.1 hG.2 hn
        · exact hG.elim
     · cases hc
   · cases hc
 · rename_i t M I X ho;split at hc
   · rename_i c hcz
     cases hx : (cAll [M,I,X] : Option (List (Opd K El))) with
     | none => rw [hx] at hc; simp at hc
     | some us =>
      rw [hx] at hc; simp at hc; obtain ⟨rfl,rfl⟩ := hc;obtain ⟨u,v,t',rfl,hu,hv,ht'⟩ := cAll3 hx hf;simp only [List.map_cons,List.map_nil] at hG;generalize opdV fr u = cu at hG hu
      cases cu <;> first | exact hG.elim | skip
      simp only [G] at hG;split at hG
      · rename_i es hi;exact op_mput ok (.inl ho) hE hcz hu hv ht' hi hG.1 hG.2.1 hG.2.2 hn
      · exact hG.elim
   · cases hc
 · rename_i t M I X ho;split at hc
   · rename_i c hcz
     cases hx : (cAll [M,I,X] : Option (List (Opd K El))) with
     | none => rw [hx] at hc; simp at hc
     | some us =>
      rw [hx] at hc; simp at hc; obtain ⟨rfl,rfl⟩ := hc;obtain ⟨u,v,t',rfl,hu,hv,ht'⟩ := cAll3 hx hf;simp only [List.map_cons,List.map_nil] at hG;generalize opdV fr u = cu at hG hu
      cases cu <;> first | exact hG.elim | skip
      simp only [G] at hG;split at hG
      · rename_i es hi;exact op_mput ok (.inr ho) hE hcz hu hv ht' hi hG.1 hG.2.1 hG.2.2 hn
      · exact hG.elim
   · cases hc
 · cases hc
end
end Sh
end Go.Proofs.YtomdfaelgcefdaaGreatDoor
