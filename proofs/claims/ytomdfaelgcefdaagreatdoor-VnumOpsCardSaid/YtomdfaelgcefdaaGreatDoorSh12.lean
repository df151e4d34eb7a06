/- The shadow machine, part 12: each operation's soundness. -/
import Derived.Test.YtomdfaelgcefdaaGreatDoorSh11
namespace Go.Proofs.YtomdfaelgcefdaaGreatDoor
open Go
namespace Sh
variable {K : Type} {El : K → Type} {S : Seat K El}

section
variable (ok : Ok S) {E : Env} {H : Heap K El} {w : World} {a : Act} {fr : Nat → AV K El}
variable {o : Oper} {k : AV K El → Heap K El → Prop} {next : Act → World → Prop} {Q : Exit → Act → World → Prop}

theorem VRv.one_of {u : AV K El} {v : Value} (h : VRv S E w u v) (hp : u.plain = true) : VR S E w u v := by rwa [VRv_plain hp] at h

theorem sizeA_some {P : Program} {t : TypeId} {n : Nat} {ag : Bool} (h : sizeA P t = some (n, ag)) (w : World) : (sizeOf t).run P w = .ok n w ∧ (isAgg t).run P w = .ok ag w ∧ (ag = false → n = 1) := by
  unfold sizeA at h
  split at h
  · rename_i i fs hi hu
    simp at h; obtain ⟨rfl, rfl⟩ := h
    exact ⟨by simp [sizeOf, typeInfo, hi], by simp [isAgg, run_underlying hu], by simp⟩
  · rename_i i m e hi hu
    simp at h; obtain ⟨rfl, rfl⟩ := h
    exact ⟨by simp [sizeOf, typeInfo, hi], by simp [isAgg, run_underlying hu], by simp⟩
  · rename_i i d h1 h2 hi hu
    split at h
    · rename_i hs
      simp at h; obtain ⟨rfl, rfl⟩ := h
      refine ⟨by simp [sizeOf, typeInfo, hi, hs], ?_, fun _ => rfl⟩
      cases d with
      | struct fs => exact (h1 fs rfl).elim
      | array m e => exact (h2 m e rfl).elim
      | _ => simp [isAgg, run_underlying hu]
    · cases h
  · cases h

include ok in
theorem op_load {t : TypeId} {A : Operand} (ho : o.op = .load t A) (hE : Emb S E H w) {n : Nat} {ag : Bool} (hs : sizeA S.P t = some (n, ag)) {x : AV K El} (hx : VRv S E w x (a.eval A))
    (hG : rd S H x n fun us => k (if ag then .agg us else us.headD .junk) H) (hn : Cont S E w a o next k) : o.wp S.P a w next Q := by
  obtain ⟨s1, s2, s3⟩ := sizeA_some hs w
  have hp : x.plain = true := by cases x <;> first | rfl | exact hG.elim
  obtain ⟨us, b, oo, cs, hk, hv, hul, hcl, hus, hcs⟩ := rd_sound ok hE hG (hx.one_of hp)
  have hl := run_loadCells_list (P := S.P) w ⟨b, oo, none⟩ cs (fun j v hj => by rw [add_lit]; exact hcs j v hj)
  rw [hcl] at hl
  cases ag with
  | true =>
    refine wp_value (w' := w) (v := .agg cs.toArray) ?_ (hn _ _ _ _ _ hk hE Ext.refl ⟨cs.toArray, rfl, by simp [hul, hcl], fun j u hu => by simpa using hus j u hu⟩)
    simp [execOp, ho, Instr.loadAt, hv, Instr.sureAddr, loadVar, s1, s2, hl]
  | false =>
    have h1 := s3 rfl
    subst h1
    match us, hul, cs, hcl with
    | [u], _, [c], _ =>
      obtain ⟨c', k1, k2, k3⟩ := hus 0 u rfl
      simp at k1
      subst k1
      have hc := hcs 0 c rfl
      rw [Nat.add_zero] at hc
      refine wp_value (w' := w) (v := c) ?_ (hn _ _ _ _ _ hk hE Ext.refl (VR2.to (k3.one_of k2)))
      simp [execOp, ho, Instr.loadAt, hv, Instr.sureAddr, loadVar, s2, hc]

include ok in
theorem op_store {t : TypeId} {A X : Operand} (ho : o.op = .store t A X) (hE : Emb S E H w) {n : Nat} {ag : Bool} (hs : sizeA S.P t = some (n, ag)) {p x : AV K El} (hp : VRv S E w p (a.eval A)) (hx : VRv S E w x (a.eval X))
    (hl : x.cells.length = n) (hone : x.cells.all AV.one = true) (hG : wr S H p x.cells fun H' => k .junk H') (hn : Cont S E w a o next k) : o.wp S.P a w next Q := by
  obtain ⟨s1, s2, s3⟩ := sizeA_some hs w
  have hpl : p.plain = true := by cases p <;> first | rfl | exact hG.elim
  have hc := (hx.two hone).cells hone
  obtain ⟨H', b, oo, w', hk, hv, hrun, hE', hx'⟩ := wr_sound ok hE hG (hp.one_of hpl) (cs := (a.eval X).cells.toList) (by simpa using hc.1) (fun j u hu => by simpa using hc.2 j u hu)
  have hsz : (a.eval X).cells.size = n := by rw [hc.1, hl]
  have hr : (execOp a.eval o).run S.P w = .ok .skip w' := by
    simp [execOp, ho, Instr.storeAt, hv, Instr.sureAddr, storeVar, s1, hsz, hrun]
  unfold Oper.wp
  rw [hr]
  exact hn _ _ _ _ _ hk hE' hx' (VR.junk _)

theorem op_nilck {X : Operand} (ho : o.op = .nilCheck X) (hE : Emb S E H w) {x : AV K El} (hx : VRv S E w x (a.eval X)) (hal : alive H x = true)
    (hG : nilG x fun v => k v H) (hn : Cont S E w a o next k) : o.wp S.P a w next Q := by
  have hgo : (execOp a.eval o).run S.P w = .ok (.value (a.eval X)) w ∧ k x H := by
    cases x <;> first | exact hG.elim | skip
    case ptr i off =>
      refine ⟨?_, hG⟩
      have hv : VR S E w (.ptr i off) (a.eval X) := hx
      generalize hq : a.eval X = v at hv
      cases hv with
      | ptr h => simp [execOp, ho, hq]
      | ptrGone h _ => exact absurd h (alive_loc hE hal i (.inl ⟨_, rfl⟩))
    case eptr kk i e off =>
      refine ⟨?_, hG⟩
      have hv : VR S E w (.eptr kk i e off) (a.eval X) := hx
      generalize hq : a.eval X = v at hv
      cases hv with
      | eptr h => simp [execOp, ho, hq]
      | eptrGone h _ => exact absurd h (alive_loc hE hal i (.inr (.inl ⟨_, _, _, rfl⟩)))
    case iptr kk xs e off =>
      refine ⟨?_, hG⟩
      have hv : VR S E w (.iptr kk xs e off) (a.eval X) := hx
      generalize hq : a.eval X = v at hv
      cases hv with
      | iptr b o' cs _ _ _ => simp [execOp, ho, hq]
    case fn f =>
      refine ⟨?_, hG⟩
      have hv : VR S E w (.fn f) (a.eval X) := hx
      generalize hq : a.eval X = v at hv
      cases hv with
      | fn f => simp [execOp, ho, hq]
    case clo f is =>
      refine ⟨?_, hG⟩
      have hv : VR S E w (.clo f is) (a.eval X) := hx
      generalize hq : a.eval X = v at hv
      cases hv with
      | clo hl hn hp => simp [execOp, ho, hq]
      | cloGone hi h _ => exact absurd h (alive_loc hE hal _ (.inr (.inr (.inr (.inr ⟨_, _, rfl, hi⟩)))))
  exact wp_value hgo.1 (hn _ _ _ _ _ hgo.2 hE Ext.refl hx)

theorem VR.bool_inv {b : Bool} {v : Value} (h : VR S E w (.bool b) v) : v = .bool b := by cases h; rfl
theorem VR.int_inv {kk : IntKind} {n : Int} {v : Value} (h : VR S E w (.int kk n) v) : v = .int kk n := by cases h; rfl
theorem VR.str_inv {s : ByteArray} {v : Value} (h : VR S E w (.str s) v) : v = .string s := by cases h; rfl

theorem eqK_bool {op : BinOp} {b : Bool} {kk : AV K El → Prop} (h : eqK op (some b) kk) : (op = .eql ∧ kk (.bool b)) ∨ (op = .neq ∧ kk (.bool (!b))) := by
  unfold eqK at h
  split at h
  · rename_i b' hb; cases hb; exact .inl ⟨rfl, h⟩
  · rename_i b' hb; cases hb; exact .inr ⟨rfl, h⟩
  · exact h.elim

theorem run_guard_plain {P : Program} {w : World} {op : BinOp} {t : TypeId} {X Y : Operand} {x y : Value} (hx : (∀ cs, x ≠ .agg cs) ∧ x ≠ .nilIface) : (eqGuard op t X Y x y).run P w = .ok () w := by
  unfold eqGuard
  cases op <;> simp
  all_goals
    cases x <;> first
      | (simp; done)
      | exact absurd rfl (hx.1 _)
      | exact absurd rfl hx.2

/-- An equality whose test is known. -/
theorem run_eq {P : Program} {w : World} {op : BinOp} {t : TypeId} {x y : Value} {b : Bool} (hop : op = .eql ∨ op = .neq) (hb : (Op.equal t x y).run P w = .ok b w)
    (hx : (∀ k n, x ≠ .int k n) ∧ (∀ k n, x ≠ .float k n) ∧ (∀ k n m, x ≠ .complex k n m) ∧ (∀ s, x ≠ .string s)) :
    (binOp op t x y).run P w = .ok (.bool (if op = .eql then b else !b)) w := by
  have e1 : ∀ y, binOp .eql t x y = (do pure (.bool (← Op.equal t x y))) := by
    intro y
    cases x <;> first
      | exact absurd rfl (hx.1 _ _)
      | exact absurd rfl (hx.2.1 _ _)
      | exact absurd rfl (hx.2.2.1 _ _ _)
      | exact absurd rfl (hx.2.2.2 _)
      | (cases y <;> rfl)
  have e2 : ∀ y, binOp .neq t x y = (do pure (.bool (!(← Op.equal t x y)))) := by
    intro y
    cases x <;> first
      | exact absurd rfl (hx.1 _ _)
      | exact absurd rfl (hx.2.1 _ _)
      | exact absurd rfl (hx.2.2.1 _ _ _)
      | exact absurd rfl (hx.2.2.2 _)
      | (cases y <;> rfl)
  rcases hop with rfl | rfl
  · rw [e1]; simp [hb]
  · rw [e2]; simp [hb]

theorem tcA_num {P : Program} {t : TypeId} (h : tcA P t = some .boo) : P.underlying t = some .bool := by
  unfold tcA at h
  split at h <;> first | assumption | (cases h; done) | skip
  all_goals
    split at h
    · split at h <;> cases h
    · cases h

theorem tcA_ptr {P : Program} {t : TypeId} (h : tcA P t = some .ptr) : ∃ e, P.underlying t = some (.pointer e) := by
  unfold tcA at h
  split at h <;> first | (exact ⟨_, by assumption⟩) | (cases h; done) | skip
  all_goals
    split at h
    · split at h <;> cases h
    · cases h

theorem tcA_agg {P : Program} {t : TypeId} {ks : List CK} (h : tcA P t = some (.agg ks)) : (∀ w : World, (isAgg t).run P w = .ok true w) ∧ plainT P 20 t = some ks ∧ (P.info? t).map (·.size) = some ks.length ∧ P.eqGuardType P.depth t = false := by
  unfold tcA at h
  split at h <;> first | (cases h; done) | skip
  · rename_i fs hfs
    split at h
    · rename_i ks' i hk hi
      split at h
      · rename_i hc
        simp at h; subst h
        exact ⟨fun w => by simp [isAgg, run_underlying hfs], hk, by rw [hi]; simp [hc.1], hc.2⟩
      · cases h
    · cases h
  · rename_i n e hfs
    split at h
    · rename_i ks' i hk hi
      split at h
      · rename_i hc
        simp at h; subst h
        exact ⟨fun w => by simp [isAgg, run_underlying hfs], hk, by rw [hi]; simp [hc.1], hc.2⟩
      · cases h
    · cases h

theorem run_eqp0 {P : Program} (w : World) (d : Nat) (t : TypeId) {e : TypeId} (he : P.underlying t = some (.pointer e)) : (Op.equalIn (d + 1) t (.pointer none) (.pointer none)).run P w = .ok true w := by
  simp [Op.equalIn, run_underlying he]
theorem run_eqp1 {P : Program} (w : World) (d : Nat) (t : TypeId) {e : TypeId} (A : Addr) (he : P.underlying t = some (.pointer e)) : (Op.equalIn (d + 1) t (.pointer none) (.pointer (some A))).run P w = .ok false w := by
  simp [Op.equalIn, run_underlying he]
theorem run_eqp2 {P : Program} (w : World) (d : Nat) (t : TypeId) {e : TypeId} (A : Addr) (he : P.underlying t = some (.pointer e)) : (Op.equalIn (d + 1) t (.pointer (some A)) (.pointer none)).run P w = .ok false w := by
  simp [Op.equalIn, run_underlying he]

theorem tcA_fn {P : Program} {t : TypeId} (h : tcA P t = some .fn) : ∃ a b c, P.underlying t = some (.func a b c) := by
  unfold tcA at h
  split at h <;> first | (exact ⟨_, _, _, by assumption⟩) | (cases h; done) | skip
  all_goals
    split at h
    · split at h <;> cases h
    · cases h

theorem run_eqf0 {P : Program} (w : World) (d : Nat) (t : TypeId) {p q r} (he : P.underlying t = some (.func p q r)) : (Op.equalIn (d + 1) t .nilFunc .nilFunc).run P w = .ok true w := by
  simp [Op.equalIn, run_underlying he]
theorem run_eqf1 {P : Program} (w : World) (d : Nat) (t : TypeId) {p q r} (f : Fn) (x y : Array Value) (he : P.underlying t = some (.func p q r)) : (Op.equalIn (d + 1) t .nilFunc (.func f x y)).run P w = .ok false w := by
  simp [Op.equalIn, run_underlying he]
theorem run_eqf2 {P : Program} (w : World) (d : Nat) (t : TypeId) {p q r} (f : Fn) (x y : Array Value) (he : P.underlying t = some (.func p q r)) : (Op.equalIn (d + 1) t (.func f x y) .nilFunc).run P w = .ok false w := by
  simp [Op.equalIn, run_underlying he]

/-- Two whole numbers. -/
theorem run_int {P : Program} {t : TypeId} {op : BinOp} {kx ky : IntKind} {m n : Int} {kk : AV K El → Prop} (h : bin op .num (.int kx m) (.int ky n) kk) :
    ∃ r v, kk r ∧ (binOp op t (.int kx m) (.int ky n)).run P w = .ok v w ∧ VR S E w r v ∧ r.plain = true := by
  cases op
  case shl =>
    obtain ⟨h0, h⟩ := h
    refine ⟨_, _, h, ?_, .int _ _, rfl⟩
    have hn : ¬ (n < 0) := by omega
    simp only [binOp, Op.shift, if_neg hn, Sem.run_pure]
  case shr =>
    obtain ⟨h0, h⟩ := h
    refine ⟨_, _, h, ?_, .int _ _, rfl⟩
    have hn : ¬ (n < 0) := by omega
    simp only [binOp, Op.shift, if_neg hn, Sem.run_pure]
  all_goals
    obtain ⟨rfl, h⟩ := h
    simp only [binI] at h
  case add => exact ⟨_, _, h, by simp only [binOp, ne_eq, not_true_eq_false, if_false, Op.intArith, Sem.run_pure], .int _ _, rfl⟩
  case sub => exact ⟨_, _, h, by simp only [binOp, ne_eq, not_true_eq_false, if_false, Op.intArith, Sem.run_pure], .int _ _, rfl⟩
  case mul => exact ⟨_, _, h, by simp only [binOp, ne_eq, not_true_eq_false, if_false, Op.intArith, Sem.run_pure], .int _ _, rfl⟩
  case quo => exact ⟨_, _, h.2, by simp only [binOp, ne_eq, not_true_eq_false, if_false, Op.intDiv, if_neg h.1, Sem.run_pure], .int _ _, rfl⟩
  case rem => exact ⟨_, _, h.2, by simp only [binOp, ne_eq, not_true_eq_false, if_false, Op.intDiv, if_neg h.1, Sem.run_pure], .int _ _, rfl⟩
  case and => exact ⟨_, _, h, by simp only [binOp, ne_eq, not_true_eq_false, if_false, Op.intBits, Sem.run_pure], .int _ _, rfl⟩
  case or => exact ⟨_, _, h, by simp only [binOp, ne_eq, not_true_eq_false, if_false, Op.intBits, Sem.run_pure], .int _ _, rfl⟩
  case xor => exact ⟨_, _, h, by simp only [binOp, ne_eq, not_true_eq_false, if_false, Op.intBits, Sem.run_pure], .int _ _, rfl⟩
  case eql => exact ⟨_, _, h, by simp only [binOp, ne_eq, not_true_eq_false, if_false, Op.intCmp, Sem.run_pure], .bool _, rfl⟩
  case neq => exact ⟨_, _, h, by simp only [binOp, ne_eq, not_true_eq_false, if_false, Op.intCmp, Sem.run_pure], .bool _, rfl⟩
  case lss => exact ⟨_, _, h, by simp only [binOp, ne_eq, not_true_eq_false, if_false, Op.intCmp, Sem.run_pure], .bool _, rfl⟩
  case leq => exact ⟨_, _, h, by simp only [binOp, ne_eq, not_true_eq_false, if_false, Op.intCmp, Sem.run_pure], .bool _, rfl⟩
  case gtr => exact ⟨_, _, h, by simp only [binOp, ne_eq, not_true_eq_false, if_false, Op.intCmp, Sem.run_pure], .bool _, rfl⟩
  case geq => exact ⟨_, _, h, by simp only [binOp, ne_eq, not_true_eq_false, if_false, Op.intCmp, Sem.run_pure], .bool _, rfl⟩
  all_goals exact h.elim

theorem op_bin {op : BinOp} {t yt : TypeId} {X Y : Operand} (ho : o.op = .binOp op t X Y yt) (hE : Emb S E H w) {c : TC} (hc : tcA S.P t = some c) {x y : AV K El} (hx : VRv S E w x (a.eval X)) (hy : VRv S E w y (a.eval Y))
    (hax : alive H x = true) (hay : alive H y = true) (hG : bin op c x y fun v => k v H) (hn : Cont S E w a o next k) : o.wp S.P a w next Q := by
  have fin : ∀ {r : AV K El} {v : Value}, (do eqGuard op t X Y (a.eval X) (a.eval Y); binOp op t (a.eval X) (a.eval Y) : Sem Value).run S.P w = .ok v w → k r H → VR S E w r v → r.plain = true → o.wp S.P a w next Q := by
    intro r v hr hk hv hp
    refine wp_value (w' := w) (v := v) ?_ (hn r H E w v hk hE Ext.refl (by rw [VRv_plain hp]; exact hv))
    simp only [execOp, ho, Sem.run_bind, Sem.run_pure]
    simp only [Sem.run_bind] at hr
    rw [hr]
    rfl
  cases c with
  | num =>
    cases x <;> first | exact hG.elim | skip
    case int kx m =>
      cases y <;> first | exact hG.elim | skip
      case int ky n =>
        have ex := VR.int_inv (show VR S E w _ _ from hx)
        have ey := VR.int_inv (show VR S E w _ _ from hy)
        rw [ex, ey] at fin
        have hg : (eqGuard op t X Y (.int kx m) (.int ky n)).run S.P w = .ok () w := run_guard_plain ⟨by simp, by simp⟩
        obtain ⟨r, v, hk, hr, hv, hp⟩ := run_int (P := S.P) (S := S) (E := E) (w := w) (t := t) hG
        exact fin (r := r) (v := v) (by simp only [Sem.run_bind, hg, Result.andThen_ok]; exact hr) hk hv hp
    case str sx =>
      cases y <;> first | exact hG.elim | skip
      case str sy =>
        have ex := VR.str_inv (show VR S E w _ _ from hx)
        have ey := VR.str_inv (show VR S E w _ _ from hy)
        rw [ex, ey] at fin
        have hg : (eqGuard op t X Y (.string sx) (.string sy)).run S.P w = .ok () w := run_guard_plain ⟨by simp, by simp⟩
        by_cases hadd : op = .add
        · subst hadd
          simp only [bin] at hG
          have hlt : ¬ (IntKind.i64.max < ((sx.size + sy.size : Nat) : Int)) := by omega
          exact fin (r := .str _) (by simp only [Sem.run_bind, hg, Result.andThen_ok, binOp, Op.stringOp]; rw [if_neg (by simpa using hlt)]; rfl) hG.2 (.str _) rfl
        · have hG' : eqK op (some (sx.toList == sy.toList)) fun v => k v H := by
            cases op <;> first | exact hG | exact absurd rfl hadd
          rcases eqK_bool hG' with ⟨rfl, hG⟩ | ⟨rfl, hG⟩
          · exact fin (r := .bool _) (by simp only [Sem.run_bind, hg, Result.andThen_ok, binOp, Op.stringOp, Sem.run_pure]) hG (.bool _) rfl
          · exact fin (r := .bool _) (by simp only [Sem.run_bind, hg, Result.andThen_ok, binOp, Op.stringOp, Sem.run_pure]) hG (.bool _) rfl
  | boo =>
    cases x <;> first | exact hG.elim | skip
    case bool bx =>
      cases y <;> first | exact hG.elim | skip
      case bool bY =>
        have ex := VR.bool_inv (show VR S E w _ _ from hx)
        have ey := VR.bool_inv (show VR S E w _ _ from hy)
        rw [ex, ey] at fin
        have hg : (eqGuard op t X Y (.bool bx) (.bool bY)).run S.P w = .ok () w := run_guard_plain ⟨by simp, by simp⟩
        have hq : (Op.equal t (.bool bx) (.bool bY)).run S.P w = .ok (bx == bY) w := run_equalIn_bool' w 9999 t bx bY (tcA_num hc)
        have hG' : eqK op (some (bx == bY)) fun v => k v H := hG
        rcases eqK_bool hG' with ⟨rfl, hG⟩ | ⟨rfl, hG⟩
        · exact fin (r := .bool _) (by simp only [Sem.run_bind, hg, Result.andThen_ok]; rw [run_eq (.inl rfl) hq ⟨by simp, by simp, by simp, by simp⟩]; rfl) hG (.bool _) rfl
        · exact fin (r := .bool _) (by simp only [Sem.run_bind, hg, Result.andThen_ok]; rw [run_eq (.inr rfl) hq ⟨by simp, by simp, by simp, by simp⟩]; rfl) hG (.bool _) rfl
  | ptr =>
    obtain ⟨e, he⟩ := tcA_ptr hc
    have key : ∃ b, eqP x y = some b ∧ (Op.equal t (a.eval X) (a.eval Y)).run S.P w = .ok b w ∧ (∃ A, a.eval X = .pointer A) := by
      cases hq : eqP x y with
      | none => simp only [bin, hq, eqK] at hG
      | some b =>
        refine ⟨b, rfl, ?_⟩
        unfold eqP at hq
        split at hq <;> first | (cases hq; done) | skip
        all_goals
          simp at hq
          subst hq
          have hx' := VRv.one_of hx rfl
          have hy' := VRv.one_of hy rfl
          generalize a.eval X = xv at hx'
          generalize a.eval Y = yv at hy'
          cases hx' <;> cases hy' <;> first
            | exact ⟨run_eqp0 w 9999 t he, _, rfl⟩
            | exact ⟨run_eqp1 w 9999 t _ he, _, rfl⟩
            | exact ⟨run_eqp2 w 9999 t _ he, _, rfl⟩
            | (rename_i hgo _; exact absurd hgo (alive_loc hE hay _ (.inl ⟨_, rfl⟩)))
            | (rename_i hgo _; exact absurd hgo (alive_loc hE hax _ (.inl ⟨_, rfl⟩)))
            | (rename_i hgo _; exact absurd hgo (alive_loc hE hay _ (.inr (.inl ⟨_, _, _, rfl⟩))))
            | (rename_i hgo _; exact absurd hgo (alive_loc hE hax _ (.inr (.inl ⟨_, _, _, rfl⟩))))
    obtain ⟨b, hb, hq, A, hA⟩ := key
    rw [hA] at hq fin
    have hg : (eqGuard op t X Y (.pointer A) (a.eval Y)).run S.P w = .ok () w := run_guard_plain ⟨by simp, by simp⟩
    simp only [bin, hb] at hG
    have hG' : eqK op (some b) fun v => k v H := by
      cases x <;> first | exact hG | (cases y <;> exact hG)
    rcases eqK_bool hG' with ⟨rfl, hG⟩ | ⟨rfl, hG⟩
    · exact fin (r := .bool _) (by simp only [Sem.run_bind, hg, Result.andThen_ok]; rw [run_eq (.inl rfl) hq ⟨by simp, by simp, by simp, by simp⟩]; rfl) hG (.bool _) rfl
    · exact fin (r := .bool _) (by simp only [Sem.run_bind, hg, Result.andThen_ok]; rw [run_eq (.inr rfl) hq ⟨by simp, by simp, by simp, by simp⟩]; rfl) hG (.bool _) rfl
  | fn =>
    obtain ⟨p0, q0, r0, he⟩ := tcA_fn hc
    have key : ∃ b, eqF x y = some b ∧ (Op.equal t (a.eval X) (a.eval Y)).run S.P w = .ok b w ∧ (a.eval X = .nilFunc ∨ ∃ f x y, a.eval X = .func f x y) := by
      cases hq : eqF x y with
      | none => simp only [bin, hq, eqK] at hG
      | some b =>
        refine ⟨b, rfl, ?_⟩
        unfold eqF at hq
        split at hq <;> first | (cases hq; done) | skip
        all_goals
          simp at hq
          subst hq
          have hx' := VRv.one_of hx rfl
          have hy' := VRv.one_of hy rfl
          generalize a.eval X = xv at hx'
          generalize a.eval Y = yv at hy'
          cases hx' <;> cases hy' <;> first
            | exact ⟨run_eqf0 w 9999 t he, .inl rfl⟩
            | exact ⟨run_eqf1 w 9999 t _ _ _ he, .inl rfl⟩
            | exact ⟨run_eqf2 w 9999 t _ _ _ he, .inr ⟨_, _, _, rfl⟩⟩
            | (rename_i hgo hi _; exact absurd hgo (alive_loc hE hay _ (.inr (.inr (.inr (.inr ⟨_, _, rfl, hi⟩))))))
            | (rename_i hgo hi _; exact absurd hgo (alive_loc hE hax _ (.inr (.inr (.inr (.inr ⟨_, _, rfl, hi⟩))))))
    obtain ⟨b, hb, hq, hA⟩ := key
    have hg : (eqGuard op t X Y (a.eval X) (a.eval Y)).run S.P w = .ok () w := by
      rcases hA with hA | ⟨f, x, y, hA⟩ <;> rw [hA] <;> exact run_guard_plain ⟨by simp, by simp⟩
    have hpl : (∀ k n, a.eval X ≠ .int k n) ∧ (∀ k n, a.eval X ≠ .float k n) ∧ (∀ k n m, a.eval X ≠ .complex k n m) ∧ (∀ s, a.eval X ≠ .string s) := by
      rcases hA with hA | ⟨f, x, y, hA⟩ <;> rw [hA] <;> exact ⟨by simp, by simp, by simp, by simp⟩
    simp only [bin, hb] at hG
    have hG' : eqK op (some b) fun v => k v H := by
      cases x <;> first | exact hG | (cases y <;> exact hG)
    rcases eqK_bool hG' with ⟨rfl, hG⟩ | ⟨rfl, hG⟩
    · exact fin (r := .bool _) (by simp only [Sem.run_bind, hg, Result.andThen_ok]; rw [run_eq (.inl rfl) hq hpl]; rfl) hG (.bool _) rfl
    · exact fin (r := .bool _) (by simp only [Sem.run_bind, hg, Result.andThen_ok]; rw [run_eq (.inr rfl) hq hpl]; rfl) hG (.bool _) rfl
  | agg ks =>
    cases x <;> first | exact hG.elim | skip
    case agg us =>
      cases y <;> first | exact hG.elim | skip
      case agg vs =>
        obtain ⟨hku, hkv, hG⟩ := hG
        obtain ⟨hag0, hpt, hsz, hgt⟩ := tcA_agg hc
        obtain ⟨xs, ex, hxl, hxc⟩ := hx
        obtain ⟨ys, ey, hyl, hyc⟩ := hy
        have hkl : ∀ (ks : List CK) (us : List (AV K El)), kds ks us = true → us.length = ks.length := by
          intro ks
          induction ks with
          | nil => intro us h; cases us <;> simp [kds] at h ⊢
          | cons c ks ih => intro us h; cases us <;> simp [kds] at h ⊢; exact ih _ h.2
        have hul := hkl _ _ hku
        have hvl := hkl _ _ hkv
        have hG0 := hG
        cases hq : eqs us vs with
        | none => rw [hq] at hG; simp [eqK] at hG
        | some b =>
          rw [hq] at hG
          obtain ⟨x', y', p1, p2, p3⟩ := eqT_sound (P := S.P) (S := S) (E := E) (w := w) 20 t ks hpt hsz 10000 (by omega) us vs xs ys 0 b ⟨hxl, hxc⟩ ⟨hyl, hyc⟩ (by omega) (by omega) (by simpa [← hul] using hku) (by rw [List.drop_zero, List.drop_zero, List.take_of_length_le (by omega), List.take_of_length_le (by omega)]; exact hq)
          have hag : (isAgg t).run S.P w = .ok true w := hag0 w
          have hso : (sizeOf t).run S.P w = .ok ks.length w := by
            cases hi : S.P.info? t with
            | none => rw [hi] at hsz; simp at hsz
            | some i => rw [hi] at hsz; simp at hsz; simp [sizeOf, typeInfo, hi, hsz]
          have ex' : x' = .agg xs := by
            simp only [part, Sem.run_bind, hag, hso, Result.andThen_ok, if_true, Sem.run_pure, Nat.zero_add] at p1
            injection p1 with p1
            rw [← p1, ← hul, ← hxl, Array.extract_size]
          have ey' : y' = .agg ys := by
            simp only [part, Sem.run_bind, hag, hso, Result.andThen_ok, if_true, Sem.run_pure, Nat.zero_add] at p2
            injection p2 with p2
            rw [← p2, ← hvl, ← hyl, Array.extract_size]
          subst ex'; subst ey'
          rw [ex, ey] at fin
          have hg : (eqGuard op t X Y (.agg xs) (.agg ys)).run S.P w = .ok () w := run_eqGuard_agg w op t X Y xs ys hgt
          have hqq : (Op.equal t (.agg xs) (.agg ys)).run S.P w = .ok b w := p3
          rcases eqK_bool hG with ⟨rfl, hG⟩ | ⟨rfl, hG⟩
          · exact fin (r := .bool _) (by simp only [Sem.run_bind, hg, Result.andThen_ok]; rw [run_eq (.inl rfl) hqq ⟨by simp, by simp, by simp, by simp⟩]; rfl) hG (.bool _) rfl
          · exact fin (r := .bool _) (by simp only [Sem.run_bind, hg, Result.andThen_ok]; rw [run_eq (.inr rfl) hqq ⟨by simp, by simp, by simp, by simp⟩]; rfl) hG (.bool _) rfl

end
end Sh
end Go.Proofs.YtomdfaelgcefdaaGreatDoor
