/- HeapW. -/
import Derived.Test.YtomdfaelgcefdaaGreatDoorGar
set_option maxRecDepth 100000
set_option maxHeartbeats 64000000
namespace Go.Proofs
open Go.RowKit Go.Shelf
attribute [local go_sem] Oper.semAt_some
theorem Tryz.m_is (bc ba oa ca N n0 : Nat) (h : Int) (h0 : 0 ≤ h) (h1 : h < N) (_hca : N ≤ ca ∧ ca ≤ maxLen) (W : World) (c2 : W.cell? ⟨bc,2,none⟩ = some (.slice (some ⟨ba,oa,none⟩) N ca)) :
    CallsIn Fence.wide n0 Tryz.prog 155 #[.pointer (some ⟨bc,0,none⟩),.int .i64 h] W fun e W' => e = .returned (.bool true) ∧ W' = W := by
 refine callsIn_of_wp Tryz.func155 rfl trivial ?_ rfl;simp only [Tryz.ntmps155,List.size_toArray,List.length_cons,List.length_nil,Nat.reduceAdd,Nat.reduceSub,Array.replicate_succ,Array.replicate_zero,List.push_toArray,List.append_toArray,List.nil_append,List.cons_append];have h2 : -12 ≤ h := by omega
 gi_wp2
 refine bodyPost_ret (results_tmp rfl _ _ _) rfl ?_;exact ⟨rfl,rfl⟩
theorem Tryz.m_above (bc n0 : Nat) (a : Int) (W : World) :
    CallsIn Fence.wide n0 Tryz.prog 213 #[.pointer (some ⟨bc,0,none⟩),.int .i64 a] W fun e W' => e = .returned (.func (.func 230) #[] #[.pointer (some ⟨W.heap.size,0,none⟩),.pointer (some ⟨W.heap.size + 1,0,none⟩)]) ∧
     W' = (W.alloc (.cells #[.pointer (some ⟨bc,0,none⟩)] 212)).alloc (.cells #[.int .i64 a] 3) := by
 refine callsIn_of_wp Tryz.func213 rfl trivial ?_ rfl;simp only [Tryz.ntmps213,List.size_toArray,List.length_cons,List.length_nil,Nat.reduceAdd,Nat.reduceSub,Array.replicate_succ,Array.replicate_zero,List.push_toArray,List.append_toArray,List.nil_append,List.cons_append]
 gi_wp2
 refine bodyPost_ret (results_tmp rfl _ _ _) rfl ?_;exact ⟨rfl,rfl⟩
theorem cell_of_heap {W W' : World} {a : Addr} (h : W'.heap[a.block]? = W.heap[a.block]?) : W'.cell? a = W.cell? a := by simp only [World.cell?,h]
theorem frozen_of_heap {W W' : World} {a : Addr} (h : W'.heap[a.block]? = W.heap[a.block]?) : W'.frozen? a = W.frozen? a := by simp only [World.frozen?,h]
theorem cnew (W : World) (v : Value) (t : TypeId) : (W.alloc (.cells #[v] t)).cell? ⟨W.heap.size,0,none⟩ = some v ∧ (W.alloc (.cells #[v] t)).frozen? ⟨W.heap.size,0,none⟩ = false := by
 have h := World.alloc_heap_new W (.cells #[v] t);exact ⟨by simp only [World.cell?,h]; rfl,by simp only [World.frozen?,h]; rfl⟩
theorem ckeep {W : World} {a : Addr} {v : Value} (o : Obj) (h : W.cell? a = some v) : (W.alloc o).cell? a = some v := (cell_of_heap (Below.heap_alloc W o _ (World.block_lt_of_cell? _ _ h))).trans h
theorem fkeep {W : World} {a : Addr} {v : Value} (o : Obj) (h : W.cell? a = some v) (hf : W.frozen? a = false) : (W.alloc o).frozen? a = false := (frozen_of_heap (Below.heap_alloc W o _ (World.block_lt_of_cell? _ _ h))).trans hf
structure HpI (bc b B3 B5 B6 Bc Bn : Nat) (w : World) (n : Nat) (W : World) : Prop where
 bel : Below w.heap.size w W
 k3 : W.cell? ⟨B3,0,none⟩ = some (.pointer (some ⟨bc,0,none⟩))
 k5 : W.cell? ⟨B5,0,none⟩ = some (.int .i64 (b : Int))
 k6 : W.cell? ⟨B6,0,none⟩ = some (.bool false)
 f6 : W.frozen? ⟨B6,0,none⟩ = false
 kc : W.cell? ⟨Bc,0,none⟩ = some (.pointer (some ⟨bc,0,none⟩))
 kn : W.cell? ⟨Bn,0,none⟩ = some (.int .i64 (n : Int))
 fn : W.frozen? ⟨Bn,0,none⟩ = false
theorem HpI.same {bc b B3 B5 B6 Bc Bn : Nat} {w W W' : World} {n : Nat} (h : HpI bc b B3 B5 B6 Bc Bn w n W) (hB : Below w.heap.size w W') (hk : ∀ k,k < W.heap.size → (k = B3 ∨ k = B5 ∨ k = B6 ∨ k = Bc ∨ k = Bn) → W'.heap[k]? = W.heap[k]?) : HpI bc b B3 B5 B6 Bc Bn w n W' := by
 have l3 := World.block_lt_of_cell? _ _ h.k3;have l5 := World.block_lt_of_cell? _ _ h.k5;have l6 := World.block_lt_of_cell? _ _ h.k6;have lc := World.block_lt_of_cell? _ _ h.kc;have ln := World.block_lt_of_cell? _ _ h.kn
 exact ⟨hB,(cell_of_heap (hk _ l3 (by simp))).trans h.k3,(cell_of_heap (hk _ l5 (by simp))).trans h.k5,(cell_of_heap (hk _ l6 (by simp))).trans h.k6,(frozen_of_heap (hk _ l6 (by simp))).trans h.f6,
  (cell_of_heap (hk _ lc (by simp))).trans h.kc,(cell_of_heap (hk _ ln (by simp))).trans h.kn,(frozen_of_heap (hk _ ln (by simp))).trans h.fn⟩
structure HpX (B6 : Nat) (w : World) (W : World) : Prop where
 bel : Below w.heap.size w W
 k6 : W.cell? ⟨B6,0,none⟩ = some (.bool true)
theorem HpW.below {bc bi oi ci ba oa ca N : Nat} {idv : Nat → Int} {sup : Nat → Option Nat} {w W : World} (h : HpW bc bi oi ci ba oa ca N idv sup w) (hB : Below w.heap.size w W) : HpW bc bi oi ci ba oa ca N idv sup W := by
 have key : ∀ {a : Addr} {v : Value},w.cell? a = some v → W.cell? a = some v := fun {a} {v} hv => (cell_of_heap (hB.block _ (World.block_lt_of_cell? _ _ hv))).trans hv;refine ⟨key h.c1,key h.c2,fun i hi => key (h.ids i hi),fun i hi => ?_⟩;obtain ⟨A,len,cap,h1,h2,h3,h4⟩ := h.sups i hi;refine ⟨A,len,cap,key h1,h2,h3,?_⟩
 rcases h4 with h4 | ⟨b,o,m,h5,h6,h7,h8,h9⟩
 · exact .inl h4
 · exact .inr ⟨b,o,m,h5,h6,h7,h8,key h9⟩
theorem Tryz.m_heap (bc bi oi ci ba oa ca N : Nat) (idv : Nat → Int) (sup : Nat → Option Nat) (hN : N ≤ 1099511627776) (_hci : N ≤ ci ∧ ci ≤ maxLen) (hca : N ≤ ca ∧ ca ≤ maxLen) (w : World) (hW : HpW bc bi oi ci ba oa ca N idv sup w)
    (a b : Nat) (ha : a < N) (hb : b < N) :
    CallsIn Fence.wide 3 Tryz.prog 190 #[.pointer (some ⟨bc,0,none⟩),.int .i64 (a : Int),.int .i64 (b : Int)] w fun e w' => e = .returned (.bool (upL idv sup (idv b) (N + 1) a)) ∧ Below w.heap.size w w' := by
 have c2 := hW.c2;have g1 : (a : Int) < (N : Int) := by omega
 have g2 : (b : Int) < (N : Int) := by omega
 have g3 : ¬ (a : Int) < 0 := by omega
 have g4 : ¬ (b : Int) < 0 := by omega
 refine callsIn_of_wp_marks Tryz.func190 rfl trivial ?_ rfl;simp only [Tryz.ntmps190,List.size_toArray,List.length_cons,List.length_nil,Nat.reduceAdd,Nat.reduceSub,Array.replicate_succ,Array.replicate_zero,List.push_toArray,List.append_toArray,List.nil_append,List.cons_append]
 gi_wp2_with (first | (refine ⟨trivial,?_⟩; gi_at_call 155; refine (Tryz.m_is bc ba oa ca N _ _ (by omega) (by omega) hca _ (kcell _ (kcell _ (kcell _ c2)))).mono ?_; rintro e w' ⟨rfl,rfl⟩) | (refine ⟨trivial,?_⟩; gi_at_call 213; refine (Tryz.m_above bc _ _ _).mono ?_; rintro e w' ⟨rfl,rfl⟩))
 have n3 := cnew w (.pointer (some ⟨bc,0,none⟩)) 212;have n5 := cnew (w.alloc (.cells #[.pointer (some ⟨bc,0,none⟩)] 212)) (.int .i64 (b : Int)) 3;have n6 := cnew ((w.alloc (.cells #[.pointer (some ⟨bc,0,none⟩)] 212)).alloc (.cells #[.int .i64 (b : Int)] 3)) (.bool false) 4;have nc := cnew (((w.alloc (.cells #[.pointer (some ⟨bc,0,none⟩)] 212)).alloc (.cells #[.int .i64 (b : Int)] 3)).alloc (.cells #[.bool false] 4)) (.pointer (some ⟨bc,0,none⟩)) 212;have nn := cnew ((((w.alloc (.cells #[.pointer (some ⟨bc,0,none⟩)] 212)).alloc (.cells #[.int .i64 (b : Int)] 3)).alloc (.cells #[.bool false] 4)).alloc (.cells #[.pointer (some ⟨bc,0,none⟩)] 212)) (.int .i64 (a : Int)) 3;simp only [World.size_alloc] at n5 n6 nc nn
 refine' box_law 3 (gf := 230) (lb := #[.pointer (some ⟨w.heap.size + 1 + 1 + 1,0,none⟩),.pointer (some ⟨w.heap.size + 1 + 1 + 1 + 1,0,none⟩)]) rfl (enters_of Tryz.func230 (by kernel_rfl) rfl) N (w.heap.size + 1 + 1 + 1 + 1) (fun n => idv n = idv b) (upL idv sup (idv b) (N + 1) a)
  (HpI bc b w.heap.size (w.heap.size + 1) (w.heap.size + 1 + 1) (w.heap.size + 1 + 1 + 1) (w.heap.size + 1 + 1 + 1 + 1) w) (HpX (w.heap.size + 1 + 1) w) a ?h0 ?hBn ?hIp ?hXp ?hIa ?hIs ?hId ?hit _ ?assign ?body ?done ?stop
 case assign =>
  intro l n W K hK
  gi_wp2
  exact hK
 case h0 =>
  exact ⟨(((((Below.refl _ w).alloc (Nat.le_refl _) _).alloc (by simp) _).alloc (by simp; omega) _).alloc (by simp; omega) _).alloc (by simp; omega) _,
   ckeep _ (ckeep _ (ckeep _ (ckeep _ n3.1))),ckeep _ (ckeep _ (ckeep _ n5.1)),ckeep _ (ckeep _ n6.1),fkeep _ (ckeep _ n6.1) (fkeep _ n6.1 n6.2),
   ckeep _ nc.1,nn.1,nn.2⟩
 case hBn => simp only [World.size_alloc]; omega
 case hIp =>
  intro n W l o h1 h2 hi;simp only [World.size_alloc] at h1;exact hi.same (hi.bel.grown (grownBy_putObj' W l o) hi.bel.size (fun k e => by cases e; omega)) fun k hk he => World.putObj_heap_other (by omega)
 case hXp =>
  intro W l o h1 h2 hx;simp only [World.size_alloc] at h1;exact ⟨hx.bel.grown (grownBy_putObj' W l o) hx.bel.size (fun k e => by cases e; omega),(cell_of_heap (World.putObj_heap_other (by simp only; omega))).trans hx.k6⟩
 case hIa => exact fun n W o hi => hi.same (hi.bel.alloc hi.bel.size _) fun k hk _ => Below.heap_alloc W o k hk
 case hIs =>
  intro n m W hm hi
  exact ⟨hi.bel.setCell (p := ⟨w.heap.size + 1 + 1 + 1 + 1,0,none⟩) (by simp only; omega) _,(cell_of_heap (Below.heap_setCell _ _ _ _ (by simp only; omega))).trans hi.k3,(cell_of_heap (Below.heap_setCell _ _ _ _ (by simp only; omega))).trans hi.k5,
   (cell_of_heap (Below.heap_setCell _ _ _ _ (by simp only; omega))).trans hi.k6,(frozen_of_heap (Below.heap_setCell _ _ _ _ (by simp only; omega))).trans hi.f6,(cell_of_heap (Below.heap_setCell _ _ _ _ (by simp only; omega))).trans hi.kc,
   World.cell?_setCell_same' _ _ _ (by rw [hi.kn]; rfl),by rw [World.frozen?_setCell]; exact hi.fn⟩
 case hId => exact fun n W hi => hi.same hi.bel.drew fun _ _ _ => rfl
 case hit =>
  intro l J Jx hJI hJs hJd hY W hJ0;exact Tryz.above1 bc bi oi ci ba oa ca N idv sup (idv b) _ _ l 2 hN hca J Jx (fun n W h => ⟨hW.below (hJI n W h).bel,(hJI n W h).kc,(hJI n W h).kn,(hJI n W h).fn⟩) hJs hJd hY a ha W hJ0
 case body =>
  intro l n W hn hi;obtain ⟨hB,k3,k5,k6,f6,kc,kn,fn⟩ := hi;obtain ⟨e1,e2,ids,_⟩ := hW.below hB;have i1 := ids n hn;have i2 := ids b hb;have hn' : (n : Int) < (N : Int) := by omega
  gi_wp2
  refine Tryz.reg12 l _ 12 _ _ bc bi oi N ci n b (idv n) (idv b) _ _ W rfl rfl rfl rfl k3 k5 e1 hn hb i1 i2 ?_;intro a' hd hs hl h76;have h6 := hl 6 (by omega);clear hl;obtain ⟨⟨tm⟩,df⟩ := a';simp only at hd;subst hd;simp only [List.size_toArray] at hs
  iterate 77 (obtain _ | ⟨y,tm⟩ := tm; · simp at hs)
  obtain _ | ⟨y,tm⟩ := tm
  rotate_left
  · simp at hs
  simp only [List.getElem?_toArray,List.getElem?_cons_succ,List.getElem?_cons_zero,Option.some.injEq] at h6 h76
  by_cases hq : idv n = idv b
  · have e7 : y = Value.bool true := by rw [h76,hq]; simp
    subst h6 e7;clear h76
    gi_wp2
    refine ⟨?_,hq,?_,?_⟩
    · exact (KeepsOthers.drew W).trans (KeepsOthers.setCell _ _ _)
    · exact hB.drew.setCell (p := ⟨w.heap.size + 1 + 1,0,none⟩) (by simp only; omega) _
    · exact World.cell?_setCell_same' _ _ _ (by rw [k6]; rfl)
  · have e7 : y = Value.bool false := by rw [h76]; simp [hq]
    subst h6 e7;clear h76
    gi_wp2
    exact ⟨KeepsOthers.drew W,hq,⟨hB.drew,k3,k5,k6,f6,kc,kn,fn⟩⟩
 case done =>
  intro D n W hD hr hi hK;obtain ⟨hB,k3,k5,k6,f6,kc,kn,fn⟩ := hi
  gi_wp2
  have hK2 := (KeepsOthers.setCell W ⟨w.heap.size + 1 + 1,0,none⟩ (.bool false)).same D _ hK rfl;refine ⟨by simp,.inl ⟨_,_,rfl,run_takeDeferred hK2,?_⟩⟩
  have hc : ((W.setCell ⟨w.heap.size + 1 + 1,0,none⟩ (.bool false)).putObj D (.deferred none)).cell? ⟨w.heap.size + 1 + 1,0,none⟩ = some (.bool false) := by
   rw [cell_of_heap (World.putObj_heap_other (by simp at hD; simp only; omega))];exact World.cell?_setCell_same' _ _ _ (by rw [k6]; rfl)
  refine ⟨.bool false,?_,by rw [hr],?_⟩
  · simp [results,go_sem,hc]
  · exact (hB.setCell (p := ⟨w.heap.size + 1 + 1,0,none⟩) (by simp only; omega) _).grown (grownBy_putObj' _ D _) (by have := hB.size; simp [World.setCell]; omega) (fun k e => by cases e; simp at hD; omega)
 case stop =>
  intro D W hD hr hx hK;obtain ⟨hB,k6⟩ := hx
  gi_wp2
  refine ⟨by simp,.inl ⟨_,_,rfl,run_takeDeferred hK,?_⟩⟩
  have hc : (W.putObj D (.deferred none)).cell? ⟨w.heap.size + 1 + 1,0,none⟩ = some (.bool true) := by
   rw [cell_of_heap (World.putObj_heap_other (by simp at hD; simp only; omega))];exact k6
  refine ⟨.bool true,?_,by rw [hr],?_⟩
  · simp [results,go_sem,hc]
  · exact hB.grown (grownBy_putObj' _ D _) hB.size (fun k e => by cases e; simp at hD; omega)
end Go.Proofs
