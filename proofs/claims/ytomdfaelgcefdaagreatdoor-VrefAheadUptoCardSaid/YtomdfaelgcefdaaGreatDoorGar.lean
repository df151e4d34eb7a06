/- HeapQ. -/
import Derived.Test.YtomdfaelgcefdaaGreatDoorGaq
set_option maxRecDepth 100000
set_option maxHeartbeats 64000000
namespace Go.Proofs
open Go.RowKit Go.Shelf
attribute [local go_sem] Oper.semAt_some
noncomputable def Tryz.ops12 : Array Oper := match Tryz.f190.body with
 | some (.seq _ (.seq _ (.seq (.seq _ (.block _ (.rangeFunc _ _ _ (.block _ (.seq (.region _ ops _) _))))) _))) => ops
 | _ => #[]
theorem ready_nil {md : Region.Mode} {ops : Array Oper} {listed : Array Bool} (h : Region.ready md ops listed = []) (i : Nat) (o : Oper) (ho : ops[i]? = some o) (hp : (o.after.all fun e => !Region.binds md e || listed.getD e.on false) = true) : listed.getD i true = true := by
 by_cases hl : listed.getD i true = true
 · exact hl
 · exfalso;have hi : i < ops.size := (Array.getElem?_eq_some_iff.1 ho).1
   have : i ∈ Region.ready md ops listed := by
    simp only [Region.ready,List.mem_filter,List.mem_range];refine ⟨hi,?_⟩;rw [ho];have hl2 : listed.getD i true = false := by simpa using hl
    simp only [Option.map_some,Option.getD_some,hp,hl2];rfl
   rw [h] at this;cases this
theorem ready_pred {md : Region.Mode} {ops : Array Oper} {listed : Array Bool} {i : Nat} (h : i ∈ Region.ready md ops listed) {o : Oper} (ho : ops[i]? = some o) : i < ops.size ∧ listed.getD i true = false ∧ (o.after.all fun e => !Region.binds md e || listed.getD e.on false) = true := by
 simp only [Region.ready,List.mem_filter,List.mem_range,ho,Option.map_some,Option.getD_some,Bool.and_eq_true,Bool.not_eq_true'] at h;exact ⟨h.1,h.2.1,h.2.2⟩
theorem step_of {F : Fence} {n : Nat} {P : Program} {ops : Array Oper} {Q : Exit → Act → World → Prop} {K : Act → World → Prop} {a : Act} {w : World} {i : Nat} {o : Oper} {v : Value} {d : Tmp} (ho : ops[i]? = some o) (hd : o.dst = some d) (hg : o.guard = none)
    (hF : ∀ f,F.fn f) (hr : (o.semAt F.round a.eval).run P w = .ok (.value v) w) (hk : K (a.put (some d) v) w) : wpOpIn F n P ops Q i K a w := by
 unfold wpOpIn;rw [ho];simp only [Region.wanted,hg,if_true];refine ⟨fun f _ => hF f,?_⟩;rw [hr,Oper.uponIn_value,hd];exact hk
theorem Tryz.ops12_size : Tryz.ops12.size = 15 := by kernel_rfl
theorem Tryz.op0 (a : Act) (W : World) (l : Nat) (B bc : Nat) (h : a.tmps[3]? = some (.pointer (some ⟨B,0,none⟩))) (k : W.cell? ⟨B,0,none⟩ = some (.pointer (some ⟨bc,0,none⟩))) : ∃ o,Tryz.ops12[0]? = some o ∧ o.dst = some 62 ∧ o.guard = none ∧ (o.semAt (some l) a.eval).run Tryz.prog W = .ok (.value (.pointer (some ⟨bc,0,none⟩))) W := by
 obtain ⟨o,ho,hop,hd,hg⟩ : ∃ o,Tryz.ops12[0]? = some o ∧ o.op = .load 212 (.tmp 3) ∧ o.dst = some 62 ∧ o.guard = none := ⟨_,rfl,rfl,rfl,rfl⟩;refine ⟨o,ho,hd,hg,?_⟩;rw [Oper.semAt_some l _ o (by intro c; rw [hop]; exact fun h => by cases h)];unfold execOp;simp only [hop];simp [go_sem,h,k]
theorem Tryz.pr0 (listed : Array Bool) : ∃ o,Tryz.ops12[0]? = some o ∧ (o.after.all fun e => !Region.binds .any e || listed.getD e.on false) = (true) := by
 obtain ⟨o,ho,ha⟩ : ∃ o,Tryz.ops12[0]? = some o ∧ o.after = #[] := ⟨_,rfl,rfl⟩;refine ⟨o,ho,?_⟩;rw [ha];simp [Region.binds]
theorem Tryz.op1 (a : Act) (W : World) (l : Nat) (bc : Nat) (h : a.tmps[62]? = some (.pointer (some ⟨bc,0,none⟩))) : ∃ o,Tryz.ops12[1]? = some o ∧ o.dst = some 63 ∧ o.guard = none ∧ (o.semAt (some l) a.eval).run Tryz.prog W = .ok (.value (.pointer (some ⟨bc,0,none⟩))) W := by
 obtain ⟨o,ho,hop,hd,hg⟩ : ∃ o,Tryz.ops12[1]? = some o ∧ o.op = .nilCheck (.tmp 62) ∧ o.dst = some 63 ∧ o.guard = none := ⟨_,rfl,rfl,rfl,rfl⟩;refine ⟨o,ho,hd,hg,?_⟩;rw [Oper.semAt_some l _ o (by intro c; rw [hop]; exact fun h => by cases h)];unfold execOp;simp only [hop];simp [go_sem,h]
theorem Tryz.pr1 (listed : Array Bool) : ∃ o,Tryz.ops12[1]? = some o ∧ (o.after.all fun e => !Region.binds .any e || listed.getD e.on false) = (listed.getD 0 false) := by
 obtain ⟨o,ho,ha⟩ : ∃ o,Tryz.ops12[1]? = some o ∧ o.after = #[⟨0,.data⟩] := ⟨_,rfl,rfl⟩;refine ⟨o,ho,?_⟩;rw [ha];simp [Region.binds]
theorem Tryz.op2 (a : Act) (W : World) (l : Nat) (bc : Nat) (h : a.tmps[63]? = some (.pointer (some ⟨bc,0,none⟩))) : ∃ o,Tryz.ops12[2]? = some o ∧ o.dst = some 64 ∧ o.guard = none ∧ (o.semAt (some l) a.eval).run Tryz.prog W = .ok (.value (.pointer (some ⟨bc,1,none⟩))) W := by
 obtain ⟨o,ho,hop,hd,hg⟩ : ∃ o,Tryz.ops12[2]? = some o ∧ o.op = .fieldAddr 242 (.tmp 63) 1 ∧ o.dst = some 64 ∧ o.guard = none := ⟨_,rfl,rfl,rfl,rfl⟩;refine ⟨o,ho,hd,hg,?_⟩;rw [Oper.semAt_some l _ o (by intro c; rw [hop]; exact fun h => by cases h)];unfold execOp;simp only [hop];simp [go_sem,h]
theorem Tryz.pr2 (listed : Array Bool) : ∃ o,Tryz.ops12[2]? = some o ∧ (o.after.all fun e => !Region.binds .any e || listed.getD e.on false) = (listed.getD 1 false) := by
 obtain ⟨o,ho,ha⟩ : ∃ o,Tryz.ops12[2]? = some o ∧ o.after = #[⟨1,.data⟩] := ⟨_,rfl,rfl⟩;refine ⟨o,ho,?_⟩;rw [ha];simp [Region.binds]
theorem Tryz.op3 (a : Act) (W : World) (l : Nat) (bc bi oi N ci : Nat) (h : a.tmps[64]? = some (.pointer (some ⟨bc,1,none⟩))) (k : W.cell? ⟨bc,1,none⟩ = some (.slice (some ⟨bi,oi,none⟩) N ci)) : ∃ o,Tryz.ops12[3]? = some o ∧ o.dst = some 65 ∧ o.guard = none ∧ (o.semAt (some l) a.eval).run Tryz.prog W = .ok (.value (.slice (some ⟨bi,oi,none⟩) N ci)) W := by
 obtain ⟨o,ho,hop,hd,hg⟩ : ∃ o,Tryz.ops12[3]? = some o ∧ o.op = .load 53 (.tmp 64) ∧ o.dst = some 65 ∧ o.guard = none := ⟨_,rfl,rfl,rfl,rfl⟩;refine ⟨o,ho,hd,hg,?_⟩;rw [Oper.semAt_some l _ o (by intro c; rw [hop]; exact fun h => by cases h)];unfold execOp;simp only [hop];simp [go_sem,h,k]
theorem Tryz.pr3 (listed : Array Bool) : ∃ o,Tryz.ops12[3]? = some o ∧ (o.after.all fun e => !Region.binds .any e || listed.getD e.on false) = (listed.getD 2 false) := by
 obtain ⟨o,ho,ha⟩ : ∃ o,Tryz.ops12[3]? = some o ∧ o.after = #[⟨2,.data⟩] := ⟨_,rfl,rfl⟩;refine ⟨o,ho,?_⟩;rw [ha];simp [Region.binds]
theorem Tryz.op4 (a : Act) (W : World) (l : Nat) (n : Nat) (h : a.tmps[8]? = some (.int .i64 n)) : ∃ o,Tryz.ops12[4]? = some o ∧ o.dst = some 66 ∧ o.guard = none ∧ (o.semAt (some l) a.eval).run Tryz.prog W = .ok (.value (.int .i64 n)) W := by
 obtain ⟨o,ho,hop,hd,hg⟩ : ∃ o,Tryz.ops12[4]? = some o ∧ o.op = .move (.tmp 8) ∧ o.dst = some 66 ∧ o.guard = none := ⟨_,rfl,rfl,rfl,rfl⟩;refine ⟨o,ho,hd,hg,?_⟩;rw [Oper.semAt_some l _ o (by intro c; rw [hop]; exact fun h => by cases h)];unfold execOp;simp only [hop];simp [go_sem,h]
theorem Tryz.pr4 (listed : Array Bool) : ∃ o,Tryz.ops12[4]? = some o ∧ (o.after.all fun e => !Region.binds .any e || listed.getD e.on false) = (true) := by
 obtain ⟨o,ho,ha⟩ : ∃ o,Tryz.ops12[4]? = some o ∧ o.after = #[] := ⟨_,rfl,rfl⟩;refine ⟨o,ho,?_⟩;rw [ha];simp [Region.binds]
theorem Tryz.op5 (a : Act) (W : World) (l : Nat) (bi oi N ci n : Nat) (hn : n < N) (h : a.tmps[65]? = some (.slice (some ⟨bi,oi,none⟩) N ci)) (h2 : a.tmps[66]? = some (.int .i64 n)) : ∃ o,Tryz.ops12[5]? = some o ∧ o.dst = some 67 ∧ o.guard = none ∧ (o.semAt (some l) a.eval).run Tryz.prog W = .ok (.value (.pointer (some ⟨bi,oi + n,none⟩))) W := by
 obtain ⟨o,ho,hop,hd,hg⟩ : ∃ o,Tryz.ops12[5]? = some o ∧ o.op = .indexAddr 53 (.tmp 65) (.tmp 66) ∧ o.dst = some 67 ∧ o.guard = none := ⟨_,rfl,rfl,rfl,rfl⟩;refine ⟨o,ho,hd,hg,?_⟩;rw [Oper.semAt_some l _ o (by intro c; rw [hop]; exact fun h => by cases h)];unfold execOp;simp only [hop];simp [go_sem,h,h2,hn]
theorem Tryz.pr5 (listed : Array Bool) : ∃ o,Tryz.ops12[5]? = some o ∧ (o.after.all fun e => !Region.binds .any e || listed.getD e.on false) = (listed.getD 3 false && listed.getD 4 false) := by
 obtain ⟨o,ho,ha⟩ : ∃ o,Tryz.ops12[5]? = some o ∧ o.after = #[⟨3,.data⟩,⟨4,.data⟩] := ⟨_,rfl,rfl⟩;refine ⟨o,ho,?_⟩;rw [ha];simp [Region.binds]
theorem Tryz.op6 (a : Act) (W : World) (l : Nat) (b o : Nat) (x : Int) (h : a.tmps[67]? = some (.pointer (some ⟨b,o,none⟩))) (k : W.cell? ⟨b,o,none⟩ = some (.int .i64 x)) : ∃ o,Tryz.ops12[6]? = some o ∧ o.dst = some 68 ∧ o.guard = none ∧ (o.semAt (some l) a.eval).run Tryz.prog W = .ok (.value (.int .i64 x)) W := by
 obtain ⟨o,ho,hop,hd,hg⟩ : ∃ o,Tryz.ops12[6]? = some o ∧ o.op = .load 3 (.tmp 67) ∧ o.dst = some 68 ∧ o.guard = none := ⟨_,rfl,rfl,rfl,rfl⟩;refine ⟨o,ho,hd,hg,?_⟩;rw [Oper.semAt_some l _ o (by intro c; rw [hop]; exact fun h => by cases h)];unfold execOp;simp only [hop];simp [go_sem,h,k]
theorem Tryz.pr6 (listed : Array Bool) : ∃ o,Tryz.ops12[6]? = some o ∧ (o.after.all fun e => !Region.binds .any e || listed.getD e.on false) = (listed.getD 5 false) := by
 obtain ⟨o,ho,ha⟩ : ∃ o,Tryz.ops12[6]? = some o ∧ o.after = #[⟨5,.data⟩] := ⟨_,rfl,rfl⟩;refine ⟨o,ho,?_⟩;rw [ha];simp [Region.binds]
theorem Tryz.op7 (a : Act) (W : World) (l : Nat) (B bc : Nat) (h : a.tmps[3]? = some (.pointer (some ⟨B,0,none⟩))) (k : W.cell? ⟨B,0,none⟩ = some (.pointer (some ⟨bc,0,none⟩))) : ∃ o,Tryz.ops12[7]? = some o ∧ o.dst = some 69 ∧ o.guard = none ∧ (o.semAt (some l) a.eval).run Tryz.prog W = .ok (.value (.pointer (some ⟨bc,0,none⟩))) W := by
 obtain ⟨o,ho,hop,hd,hg⟩ : ∃ o,Tryz.ops12[7]? = some o ∧ o.op = .load 212 (.tmp 3) ∧ o.dst = some 69 ∧ o.guard = none := ⟨_,rfl,rfl,rfl,rfl⟩;refine ⟨o,ho,hd,hg,?_⟩;rw [Oper.semAt_some l _ o (by intro c; rw [hop]; exact fun h => by cases h)];unfold execOp;simp only [hop];simp [go_sem,h,k]
theorem Tryz.pr7 (listed : Array Bool) : ∃ o,Tryz.ops12[7]? = some o ∧ (o.after.all fun e => !Region.binds .any e || listed.getD e.on false) = (true) := by
 obtain ⟨o,ho,ha⟩ : ∃ o,Tryz.ops12[7]? = some o ∧ o.after = #[] := ⟨_,rfl,rfl⟩;refine ⟨o,ho,?_⟩;rw [ha];simp [Region.binds]
theorem Tryz.op8 (a : Act) (W : World) (l : Nat) (bc : Nat) (h : a.tmps[69]? = some (.pointer (some ⟨bc,0,none⟩))) : ∃ o,Tryz.ops12[8]? = some o ∧ o.dst = some 70 ∧ o.guard = none ∧ (o.semAt (some l) a.eval).run Tryz.prog W = .ok (.value (.pointer (some ⟨bc,0,none⟩))) W := by
 obtain ⟨o,ho,hop,hd,hg⟩ : ∃ o,Tryz.ops12[8]? = some o ∧ o.op = .nilCheck (.tmp 69) ∧ o.dst = some 70 ∧ o.guard = none := ⟨_,rfl,rfl,rfl,rfl⟩;refine ⟨o,ho,hd,hg,?_⟩;rw [Oper.semAt_some l _ o (by intro c; rw [hop]; exact fun h => by cases h)];unfold execOp;simp only [hop];simp [go_sem,h]
theorem Tryz.pr8 (listed : Array Bool) : ∃ o,Tryz.ops12[8]? = some o ∧ (o.after.all fun e => !Region.binds .any e || listed.getD e.on false) = (listed.getD 7 false) := by
 obtain ⟨o,ho,ha⟩ : ∃ o,Tryz.ops12[8]? = some o ∧ o.after = #[⟨7,.data⟩] := ⟨_,rfl,rfl⟩;refine ⟨o,ho,?_⟩;rw [ha];simp [Region.binds]
theorem Tryz.op9 (a : Act) (W : World) (l : Nat) (bc : Nat) (h : a.tmps[70]? = some (.pointer (some ⟨bc,0,none⟩))) : ∃ o,Tryz.ops12[9]? = some o ∧ o.dst = some 71 ∧ o.guard = none ∧ (o.semAt (some l) a.eval).run Tryz.prog W = .ok (.value (.pointer (some ⟨bc,1,none⟩))) W := by
 obtain ⟨o,ho,hop,hd,hg⟩ : ∃ o,Tryz.ops12[9]? = some o ∧ o.op = .fieldAddr 242 (.tmp 70) 1 ∧ o.dst = some 71 ∧ o.guard = none := ⟨_,rfl,rfl,rfl,rfl⟩;refine ⟨o,ho,hd,hg,?_⟩;rw [Oper.semAt_some l _ o (by intro c; rw [hop]; exact fun h => by cases h)];unfold execOp;simp only [hop];simp [go_sem,h]
theorem Tryz.pr9 (listed : Array Bool) : ∃ o,Tryz.ops12[9]? = some o ∧ (o.after.all fun e => !Region.binds .any e || listed.getD e.on false) = (listed.getD 8 false) := by
 obtain ⟨o,ho,ha⟩ : ∃ o,Tryz.ops12[9]? = some o ∧ o.after = #[⟨8,.data⟩] := ⟨_,rfl,rfl⟩;refine ⟨o,ho,?_⟩;rw [ha];simp [Region.binds]
theorem Tryz.op10 (a : Act) (W : World) (l : Nat) (bc bi oi N ci : Nat) (h : a.tmps[71]? = some (.pointer (some ⟨bc,1,none⟩))) (k : W.cell? ⟨bc,1,none⟩ = some (.slice (some ⟨bi,oi,none⟩) N ci)) : ∃ o,Tryz.ops12[10]? = some o ∧ o.dst = some 72 ∧ o.guard = none ∧ (o.semAt (some l) a.eval).run Tryz.prog W = .ok (.value (.slice (some ⟨bi,oi,none⟩) N ci)) W := by
 obtain ⟨o,ho,hop,hd,hg⟩ : ∃ o,Tryz.ops12[10]? = some o ∧ o.op = .load 53 (.tmp 71) ∧ o.dst = some 72 ∧ o.guard = none := ⟨_,rfl,rfl,rfl,rfl⟩;refine ⟨o,ho,hd,hg,?_⟩;rw [Oper.semAt_some l _ o (by intro c; rw [hop]; exact fun h => by cases h)];unfold execOp;simp only [hop];simp [go_sem,h,k]
theorem Tryz.pr10 (listed : Array Bool) : ∃ o,Tryz.ops12[10]? = some o ∧ (o.after.all fun e => !Region.binds .any e || listed.getD e.on false) = (listed.getD 9 false) := by
 obtain ⟨o,ho,ha⟩ : ∃ o,Tryz.ops12[10]? = some o ∧ o.after = #[⟨9,.data⟩] := ⟨_,rfl,rfl⟩;refine ⟨o,ho,?_⟩;rw [ha];simp [Region.binds]
theorem Tryz.op11 (a : Act) (W : World) (l : Nat) (B n : Nat) (h : a.tmps[5]? = some (.pointer (some ⟨B,0,none⟩))) (k : W.cell? ⟨B,0,none⟩ = some (.int .i64 n)) : ∃ o,Tryz.ops12[11]? = some o ∧ o.dst = some 73 ∧ o.guard = none ∧ (o.semAt (some l) a.eval).run Tryz.prog W = .ok (.value (.int .i64 n)) W := by
 obtain ⟨o,ho,hop,hd,hg⟩ : ∃ o,Tryz.ops12[11]? = some o ∧ o.op = .load 3 (.tmp 5) ∧ o.dst = some 73 ∧ o.guard = none := ⟨_,rfl,rfl,rfl,rfl⟩;refine ⟨o,ho,hd,hg,?_⟩;rw [Oper.semAt_some l _ o (by intro c; rw [hop]; exact fun h => by cases h)];unfold execOp;simp only [hop];simp [go_sem,h,k]
theorem Tryz.pr11 (listed : Array Bool) : ∃ o,Tryz.ops12[11]? = some o ∧ (o.after.all fun e => !Region.binds .any e || listed.getD e.on false) = (true) := by
 obtain ⟨o,ho,ha⟩ : ∃ o,Tryz.ops12[11]? = some o ∧ o.after = #[] := ⟨_,rfl,rfl⟩;refine ⟨o,ho,?_⟩;rw [ha];simp [Region.binds]
theorem Tryz.op12 (a : Act) (W : World) (l : Nat) (bi oi N ci n : Nat) (hn : n < N) (h : a.tmps[72]? = some (.slice (some ⟨bi,oi,none⟩) N ci)) (h2 : a.tmps[73]? = some (.int .i64 n)) : ∃ o,Tryz.ops12[12]? = some o ∧ o.dst = some 74 ∧ o.guard = none ∧ (o.semAt (some l) a.eval).run Tryz.prog W = .ok (.value (.pointer (some ⟨bi,oi + n,none⟩))) W := by
 obtain ⟨o,ho,hop,hd,hg⟩ : ∃ o,Tryz.ops12[12]? = some o ∧ o.op = .indexAddr 53 (.tmp 72) (.tmp 73) ∧ o.dst = some 74 ∧ o.guard = none := ⟨_,rfl,rfl,rfl,rfl⟩;refine ⟨o,ho,hd,hg,?_⟩;rw [Oper.semAt_some l _ o (by intro c; rw [hop]; exact fun h => by cases h)];unfold execOp;simp only [hop];simp [go_sem,h,h2,hn]
theorem Tryz.pr12 (listed : Array Bool) : ∃ o,Tryz.ops12[12]? = some o ∧ (o.after.all fun e => !Region.binds .any e || listed.getD e.on false) = (listed.getD 10 false && listed.getD 11 false) := by
 obtain ⟨o,ho,ha⟩ : ∃ o,Tryz.ops12[12]? = some o ∧ o.after = #[⟨10,.data⟩,⟨11,.data⟩] := ⟨_,rfl,rfl⟩;refine ⟨o,ho,?_⟩;rw [ha];simp [Region.binds]
theorem Tryz.op13 (a : Act) (W : World) (l : Nat) (b o : Nat) (x : Int) (h : a.tmps[74]? = some (.pointer (some ⟨b,o,none⟩))) (k : W.cell? ⟨b,o,none⟩ = some (.int .i64 x)) : ∃ o,Tryz.ops12[13]? = some o ∧ o.dst = some 75 ∧ o.guard = none ∧ (o.semAt (some l) a.eval).run Tryz.prog W = .ok (.value (.int .i64 x)) W := by
 obtain ⟨o,ho,hop,hd,hg⟩ : ∃ o,Tryz.ops12[13]? = some o ∧ o.op = .load 3 (.tmp 74) ∧ o.dst = some 75 ∧ o.guard = none := ⟨_,rfl,rfl,rfl,rfl⟩;refine ⟨o,ho,hd,hg,?_⟩;rw [Oper.semAt_some l _ o (by intro c; rw [hop]; exact fun h => by cases h)];unfold execOp;simp only [hop];simp [go_sem,h,k]
theorem Tryz.pr13 (listed : Array Bool) : ∃ o,Tryz.ops12[13]? = some o ∧ (o.after.all fun e => !Region.binds .any e || listed.getD e.on false) = (listed.getD 12 false) := by
 obtain ⟨o,ho,ha⟩ : ∃ o,Tryz.ops12[13]? = some o ∧ o.after = #[⟨12,.data⟩] := ⟨_,rfl,rfl⟩;refine ⟨o,ho,?_⟩;rw [ha];simp [Region.binds]
theorem Tryz.op14 (a : Act) (W : World) (l : Nat) (x y : Int) (h : a.tmps[68]? = some (.int .i64 x)) (h2 : a.tmps[75]? = some (.int .i64 y)) : ∃ o,Tryz.ops12[14]? = some o ∧ o.dst = some 76 ∧ o.guard = none ∧ (o.semAt (some l) a.eval).run Tryz.prog W = .ok (.value (.bool (x == y))) W := by
 obtain ⟨o,ho,hop,hd,hg⟩ : ∃ o,Tryz.ops12[14]? = some o ∧ o.op = .binOp .eql 3 (.tmp 68) (.tmp 75) 3 ∧ o.dst = some 76 ∧ o.guard = none := ⟨_,rfl,rfl,rfl,rfl⟩;refine ⟨o,ho,hd,hg,?_⟩;rw [Oper.semAt_some l _ o (by intro c; rw [hop]; exact fun h => by cases h)];unfold execOp;simp only [hop];simp [go_sem,h,h2]
theorem Tryz.pr14 (listed : Array Bool) : ∃ o,Tryz.ops12[14]? = some o ∧ (o.after.all fun e => !Region.binds .any e || listed.getD e.on false) = (listed.getD 6 false && listed.getD 13 false) := by
 obtain ⟨o,ho,ha⟩ : ∃ o,Tryz.ops12[14]? = some o ∧ o.after = #[⟨6,.data⟩,⟨13,.data⟩] := ⟨_,rfl,rfl⟩;refine ⟨o,ho,?_⟩;rw [ha];simp [Region.binds]
def vals12 (bc bi oi N ci n b : Nat) (x y : Int) : Nat → Value
 | 0 => .pointer (some ⟨bc,0,none⟩)
 | 1 => .pointer (some ⟨bc,0,none⟩)
 | 2 => .pointer (some ⟨bc,1,none⟩)
 | 3 => .slice (some ⟨bi,oi,none⟩) N ci
 | 4 => .int .i64 (n : Int)
 | 5 => .pointer (some ⟨bi,oi + n,none⟩)
 | 6 => .int .i64 x
 | 7 => .pointer (some ⟨bc,0,none⟩)
 | 8 => .pointer (some ⟨bc,0,none⟩)
 | 9 => .pointer (some ⟨bc,1,none⟩)
 | 10 => .slice (some ⟨bi,oi,none⟩) N ci
 | 11 => .int .i64 (b : Int)
 | 12 => .pointer (some ⟨bi,oi + b,none⟩)
 | 13 => .int .i64 y
 | 14 => .bool (x == y)
 | _ => undef
structure Inv12 (bc bi oi N ci n b : Nat) (x y : Int) (a : Act) (W : World) (listed : Array Bool) (a' : Act) (w' : World) : Prop where
 size : listed.size = 15
 defers : a'.defers = a.defers
 tmps : a'.tmps.size = 77
 low : ∀ d,d < 62 → a'.tmps[d]? = a.tmps[d]?
 done : ∀ i,i < 15 → listed.getD i false = true → a'.tmps[62 + i]? = some (vals12 bc bi oi N ci n b x y i)
 world : w' = W
theorem Inv12.put {bc bi oi N ci n b : Nat} {x y : Int} {a : Act} {W : World} {listed : Array Bool} {a' : Act} {w' : World} (h : Inv12 bc bi oi N ci n b x y a W listed a' w') {i : Nat} (hi : i < 15) {d : Tmp} (hd : d = 62 + i) {v : Value} (hv : v = vals12 bc bi oi N ci n b x y i) : Inv12 bc bi oi N ci n b x y a W (listed.setIfInBounds i true) (a'.put (some d) v) w' := by
 subst hd hv;refine ⟨by simp [h.size],h.defers,by simp [Act.put,h.tmps],fun d hd => ?_,fun j hj hl => ?_,h.world⟩
 · simp only [Act.put];rw [Array.getElem?_setIfInBounds_ne (by omega)];exact h.low d hd
 · simp only [Act.put]
   by_cases hij : i = j
   · subst hij;rw [Array.getElem?_setIfInBounds_self_of_lt (by rw [h.tmps]; omega)]
   · rw [Array.getElem?_setIfInBounds_ne (by omega)];refine h.done j hj ?_;rw [Array.getD_eq_getD_getElem?,Array.getElem?_setIfInBounds_ne (by omega)] at hl;rw [Array.getD_eq_getD_getElem?];exact hl
theorem Tryz.reg12 (l n0 id B3 B5 bc bi oi N ci n b : Nat) (x y : Int) (Q : Exit → Act → World → Prop) (a : Act) (W : World) (hsz : a.tmps.size = 77) (ha3 : a.tmps[3]? = some (.pointer (some ⟨B3,0,none⟩))) (ha5 : a.tmps[5]? = some (.pointer (some ⟨B5,0,none⟩))) (ha8 : a.tmps[8]? = some (.int .i64 (n : Int)))
    (k3 : W.cell? ⟨B3,0,none⟩ = some (.pointer (some ⟨bc,0,none⟩))) (k5 : W.cell? ⟨B5,0,none⟩ = some (.int .i64 (b : Int))) (e1 : W.cell? ⟨bc,1,none⟩ = some (.slice (some ⟨bi,oi,none⟩) N ci)) (hn : n < N) (hb : b < N)
    (i1 : W.cell? ⟨bi,oi + n,none⟩ = some (.int .i64 x)) (i2 : W.cell? ⟨bi,oi + b,none⟩ = some (.int .i64 y))
    (hfin : ∀ a' : Act,a'.defers = a.defers → a'.tmps.size = 77 → (∀ d,d < 62 → a'.tmps[d]? = a.tmps[d]?) → a'.tmps[76]? = some (.bool (x == y)) → Q .normal a' W.drew) :
    (Code.region id Tryz.ops12 true).wpIn (Fence.wide.inRound l) n0 Tryz.prog Q a W := by
 refine wpIn_region_any (by kernel_rfl) ?_
 change wpAnyIn _ _ _ _ _ _ _ _ _ W.drew
 have hF : ∀ f,(Fence.wide.inRound l).fn f := fun f => trivial;refine any_inv (Inv12 bc bi oi N ci n b x y a W.drew) ?_ ?_ ?_ _ _ _ _ ?_ ?_
 · intro i listed a' w' hi hr
   have hlt : i < 15 := by
    have : i < Tryz.ops12.size := by simpa [Region.ready] using (List.mem_filter.1 hr).1
    rw [Tryz.ops12_size] at this;exact this
   obtain rfl := hi.world;have low3 := (hi.low 3 (by omega)).trans ha3;have low5 := (hi.low 5 (by omega)).trans ha5;have low8 := (hi.low 8 (by omega)).trans ha8;have hdn := hi.done
   match i,hlt with
   | 0,_ =>
    obtain ⟨o,ho,hp⟩ := Tryz.pr0 listed;have hq := (ready_pred hr ho).2.2;rw [hp] at hq;obtain ⟨o2,h1,h2,h3,h4⟩ := Tryz.op0 a' W.drew l B3 bc low3 k3;exact step_of h1 h2 h3 hF h4 (hi.put (i := 0) (by omega) rfl rfl)
   | 1,_ =>
    obtain ⟨o,ho,hp⟩ := Tryz.pr1 listed;have hq := (ready_pred hr ho).2.2;rw [hp] at hq;have d0 := hdn 0 (by omega) hq;obtain ⟨o2,h1,h2,h3,h4⟩ := Tryz.op1 a' W.drew l bc d0;exact step_of h1 h2 h3 hF h4 (hi.put (i := 1) (by omega) rfl rfl)
   | 2,_ =>
    obtain ⟨o,ho,hp⟩ := Tryz.pr2 listed;have hq := (ready_pred hr ho).2.2;rw [hp] at hq;have d1 := hdn 1 (by omega) hq;obtain ⟨o2,h1,h2,h3,h4⟩ := Tryz.op2 a' W.drew l bc d1;exact step_of h1 h2 h3 hF h4 (hi.put (i := 2) (by omega) rfl rfl)
   | 3,_ =>
    obtain ⟨o,ho,hp⟩ := Tryz.pr3 listed;have hq := (ready_pred hr ho).2.2;rw [hp] at hq;have d2 := hdn 2 (by omega) hq;obtain ⟨o2,h1,h2,h3,h4⟩ := Tryz.op3 a' W.drew l bc bi oi N ci d2 e1;exact step_of h1 h2 h3 hF h4 (hi.put (i := 3) (by omega) rfl rfl)
   | 4,_ =>
    obtain ⟨o,ho,hp⟩ := Tryz.pr4 listed;have hq := (ready_pred hr ho).2.2;rw [hp] at hq;obtain ⟨o2,h1,h2,h3,h4⟩ := Tryz.op4 a' W.drew l n low8;exact step_of h1 h2 h3 hF h4 (hi.put (i := 4) (by omega) rfl rfl)
   | 5,_ =>
    obtain ⟨o,ho,hp⟩ := Tryz.pr5 listed;have hq := (ready_pred hr ho).2.2;rw [hp] at hq;simp only [Bool.and_eq_true] at hq;have d3 := hdn 3 (by omega) hq.1;have d4 := hdn 4 (by omega) hq.2;obtain ⟨o2,h1,h2,h3,h4⟩ := Tryz.op5 a' W.drew l bi oi N ci n hn d3 d4;exact step_of h1 h2 h3 hF h4 (hi.put (i := 5) (by omega) rfl rfl)
   | 6,_ =>
    obtain ⟨o,ho,hp⟩ := Tryz.pr6 listed;have hq := (ready_pred hr ho).2.2;rw [hp] at hq;have d5 := hdn 5 (by omega) hq;obtain ⟨o2,h1,h2,h3,h4⟩ := Tryz.op6 a' W.drew l bi (oi + n) x d5 i1;exact step_of h1 h2 h3 hF h4 (hi.put (i := 6) (by omega) rfl rfl)
   | 7,_ =>
    obtain ⟨o,ho,hp⟩ := Tryz.pr7 listed;have hq := (ready_pred hr ho).2.2;rw [hp] at hq;obtain ⟨o2,h1,h2,h3,h4⟩ := Tryz.op7 a' W.drew l B3 bc low3 k3;exact step_of h1 h2 h3 hF h4 (hi.put (i := 7) (by omega) rfl rfl)
   | 8,_ =>
    obtain ⟨o,ho,hp⟩ := Tryz.pr8 listed;have hq := (ready_pred hr ho).2.2;rw [hp] at hq;have d7 := hdn 7 (by omega) hq;obtain ⟨o2,h1,h2,h3,h4⟩ := Tryz.op8 a' W.drew l bc d7;exact step_of h1 h2 h3 hF h4 (hi.put (i := 8) (by omega) rfl rfl)
   | 9,_ =>
    obtain ⟨o,ho,hp⟩ := Tryz.pr9 listed;have hq := (ready_pred hr ho).2.2;rw [hp] at hq;have d8 := hdn 8 (by omega) hq;obtain ⟨o2,h1,h2,h3,h4⟩ := Tryz.op9 a' W.drew l bc d8;exact step_of h1 h2 h3 hF h4 (hi.put (i := 9) (by omega) rfl rfl)
   | 10,_ =>
    obtain ⟨o,ho,hp⟩ := Tryz.pr10 listed;have hq := (ready_pred hr ho).2.2;rw [hp] at hq;have d9 := hdn 9 (by omega) hq;obtain ⟨o2,h1,h2,h3,h4⟩ := Tryz.op10 a' W.drew l bc bi oi N ci d9 e1;exact step_of h1 h2 h3 hF h4 (hi.put (i := 10) (by omega) rfl rfl)
   | 11,_ =>
    obtain ⟨o,ho,hp⟩ := Tryz.pr11 listed;have hq := (ready_pred hr ho).2.2;rw [hp] at hq;obtain ⟨o2,h1,h2,h3,h4⟩ := Tryz.op11 a' W.drew l B5 b low5 k5;exact step_of h1 h2 h3 hF h4 (hi.put (i := 11) (by omega) rfl rfl)
   | 12,_ =>
    obtain ⟨o,ho,hp⟩ := Tryz.pr12 listed;have hq := (ready_pred hr ho).2.2;rw [hp] at hq;simp only [Bool.and_eq_true] at hq;have d10 := hdn 10 (by omega) hq.1;have d11 := hdn 11 (by omega) hq.2;obtain ⟨o2,h1,h2,h3,h4⟩ := Tryz.op12 a' W.drew l bi oi N ci b hb d10 d11;exact step_of h1 h2 h3 hF h4 (hi.put (i := 12) (by omega) rfl rfl)
   | 13,_ =>
    obtain ⟨o,ho,hp⟩ := Tryz.pr13 listed;have hq := (ready_pred hr ho).2.2;rw [hp] at hq;have d12 := hdn 12 (by omega) hq;obtain ⟨o2,h1,h2,h3,h4⟩ := Tryz.op13 a' W.drew l bi (oi + b) y d12 i2;exact step_of h1 h2 h3 hF h4 (hi.put (i := 13) (by omega) rfl rfl)
   | 14,_ =>
    obtain ⟨o,ho,hp⟩ := Tryz.pr14 listed;have hq := (ready_pred hr ho).2.2;rw [hp] at hq;simp only [Bool.and_eq_true] at hq;have d6 := hdn 6 (by omega) hq.1;have d13 := hdn 13 (by omega) hq.2;obtain ⟨o2,h1,h2,h3,h4⟩ := Tryz.op14 a' W.drew l x y d6 d13;exact step_of h1 h2 h3 hF h4 (hi.put (i := 14) (by omega) rfl rfl)
 · intro listed a' w' hi hr;obtain rfl := hi.world;have hs := hi.size
   have up : ∀ i,i < 15 → listed.getD i true = true → listed.getD i false = true := fun i hi h => by
    rw [Array.getD_eq_getD_getElem?,Array.getElem?_eq_getElem (by omega)] at h ⊢;simpa using h
   obtain ⟨o0,q0,p0⟩ := Tryz.pr0 listed;have l0 := up 0 (by omega) (ready_nil hr 0 o0 q0 (by rw [p0]));obtain ⟨o1,q1,p1⟩ := Tryz.pr1 listed;have l1 := up 1 (by omega) (ready_nil hr 1 o1 q1 (by rw [p1]; simp only [l0]));obtain ⟨o2,q2,p2⟩ := Tryz.pr2 listed;have l2 := up 2 (by omega) (ready_nil hr 2 o2 q2 (by rw [p2]; simp only [l1]));obtain ⟨o3,q3,p3⟩ := Tryz.pr3 listed;have l3 := up 3 (by omega) (ready_nil hr 3 o3 q3 (by rw [p3]; simp only [l2]));obtain ⟨o4,q4,p4⟩ := Tryz.pr4 listed;have l4 := up 4 (by omega) (ready_nil hr 4 o4 q4 (by rw [p4]));obtain ⟨o5,q5,p5⟩ := Tryz.pr5 listed;have l5 := up 5 (by omega) (ready_nil hr 5 o5 q5 (by rw [p5]; simp only [l3,l4,Bool.and_self]));obtain ⟨o6,q6,p6⟩ := Tryz.pr6 listed;have l6 := up 6 (by omega) (ready_nil hr 6 o6 q6 (by rw [p6]; simp only [l5]));obtain ⟨o7,q7,p7⟩ := Tryz.pr7 listed;have l7 := up 7 (by omega) (ready_nil hr 7 o7 q7 (by rw [p7]));obtain ⟨o8,q8,p8⟩ := Tryz.pr8 listed;have l8 := up 8 (by omega) (ready_nil hr 8 o8 q8 (by rw [p8]; simp only [l7]));obtain ⟨o9,q9,p9⟩ := Tryz.pr9 listed;have l9 := up 9 (by omega) (ready_nil hr 9 o9 q9 (by rw [p9]; simp only [l8]));obtain ⟨o10,q10,p10⟩ := Tryz.pr10 listed;have l10 := up 10 (by omega) (ready_nil hr 10 o10 q10 (by rw [p10]; simp only [l9]));obtain ⟨o11,q11,p11⟩ := Tryz.pr11 listed;have l11 := up 11 (by omega) (ready_nil hr 11 o11 q11 (by rw [p11]));obtain ⟨o12,q12,p12⟩ := Tryz.pr12 listed;have l12 := up 12 (by omega) (ready_nil hr 12 o12 q12 (by rw [p12]; simp only [l10,l11,Bool.and_self]));obtain ⟨o13,q13,p13⟩ := Tryz.pr13 listed;have l13 := up 13 (by omega) (ready_nil hr 13 o13 q13 (by rw [p13]; simp only [l12]));obtain ⟨o14,q14,p14⟩ := Tryz.pr14 listed;have l14 := up 14 (by omega) (ready_nil hr 14 o14 q14 (by rw [p14]; simp only [l6,l13,Bool.and_self]));exact hfin a' hi.defers hi.tmps hi.low (hi.done 14 (by omega) l14)
 · intro listed a' w' hi h0;have hs := hi.size
   have hall : ∀ i,i < 15 → listed.getD i true = true := fun i hlt => by
    rcases hq : listed.getD i true with _ | _
    · exfalso;have := leftN_set hq;omega
    · rfl
   apply List.filter_eq_nil_iff.2;intro i hi2;rw [List.mem_range,Tryz.ops12_size] at hi2;simp [hall i hi2]
 · rw [Tryz.ops12_size];decide
 · refine ⟨by rw [Tryz.ops12_size]; simp,rfl,hsz,fun _ _ => rfl,fun i hi hl => ?_,rfl⟩;rw [Tryz.ops12_size] at hl;simp [Array.getD_eq_getD_getElem?,hi] at hl
end Go.Proofs
