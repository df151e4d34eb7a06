/- HeapL. -/
import Derived.Test.YtomdfaelgcefdaaGreatDoorGao
set_option maxRecDepth 100000
set_option maxHeartbeats 64000000
namespace Go.Proofs
open Go.RowKit Go.Shelf
def boxPost (I : Nat → World → Prop) (Ix : World → Prop) (same : Nat → Prop) (n : Nat) (W : World) : Exit → Act → World → Prop
 | .normal,_,W' => KeepsOthers W W' ∧ ¬ same n ∧ I n W'
 | .ret,_,W' => KeepsOthers W W' ∧ same n ∧ Ix W'
 | .exit _,_,_ => False
 | .goto _,_,_ => False
 | .panic _,_,_ => False
 | .outgrown,_,_ => False
theorem box_law {P : Program} {g : Operand} {t0 : Tmp} {assign body : Code} {Q : Exit → Act → World → Prop} {a : Act} {w : World} {gf : Nat} {lb : Array Value} (n0 : Nat)
    (hg : a.eval g = .func (.func gf) #[] lb) (eg : ∀ args w,(callFunc gf args).run P w = .ok (.enter gf args) w)
    (N Bn : Nat) (same : Nat → Prop) (r : Bool) (I : Nat → World → Prop) (Ix : World → Prop) (s0 : Nat) (h0 : I s0 w) (hBn : Bn < w.heap.size)
    (hIp : ∀ n W l o,w.heap.size ≤ l → l < W.heap.size → I n W → I n (W.putObj l o)) (hXp : ∀ W l o,w.heap.size ≤ l → l < W.heap.size → Ix W → Ix (W.putObj l o))
    (hIa : ∀ n W o,I n W → I n (W.alloc o)) (hIs : ∀ n m W,m < N → I n W → I m (W.setCell ⟨Bn,0,none⟩ (.int .i64 (m : Int)))) (hId : ∀ n W,I n W → I n W.drew)
    (hit : ∀ (l : Nat) (J : Nat → World → Prop) (Jx : World → Prop),(∀ n W,J n W → I n W) → (∀ n m W,m < N → J n W → J m (W.setCell ⟨Bn,0,none⟩ (.int .i64 (m : Int)))) → (∀ n W,J n W → J n W.drew) →
     (∀ n W,n < N → J n W → YieldAt Fence.wide (n0 - 1 - 1) P l #[.int .i64 (n : Int)] W fun e W' => (¬ same n ∧ e = .returned (.bool true) ∧ J n W') ∨ (same n ∧ e = .returned (.bool false) ∧ Jx W')) →
     ∀ W,J s0 W → CallsIn Fence.wide (n0 - 1) P gf (#[.func (.yield l) #[] #[]] ++ lb) W fun e W' => (∃ v,e = .returned v) ∧ ((r = false ∧ ∃ n,J n W') ∨ (r = true ∧ Jx W')))
    (a₁ : Nat → Act)
    (hassign : ∀ (l n : Nat) (W : World) (K : Act → World → Prop),K (a₁ n) W →
     assign.wpIn (Fence.wide.inRound l) (n0 - 1 - 1) P (Exit.then K (fun _ _ _ => False)) { tmps := a.tmps.setIfInBounds t0 (.int .i64 (n : Int)),defers := [] } W)
    (hbody : ∀ (l n : Nat) (W : World),n < N → I n W → body.wpIn (Fence.wide.inRound l) (n0 - 1 - 1) P (boxPost I Ix same n W) (a₁ n) W)
    (hdone : ∀ (D n : Nat) (W : World),w.heap.size ≤ D → r = false → I n W → W.heap[D]? = some (.deferred (some [])) → Q .normal { a with defers := { target := .collected D,args := #[] } :: a.defers } W)
    (hstop : ∀ (D : Nat) (W : World),w.heap.size ≤ D → r = true → Ix W → W.heap[D]? = some (.deferred (some [])) → Code.ret.wpIn Fence.wide n0 P Q { a with defers := { target := .collected D,args := #[] } :: a.defers } W) :
    (Code.rangeFunc g #[t0] assign body).wpIn Fence.wide n0 P Q a w := by
 refine wpIn_rangeFunc ?_;intro fn hfn;have hro : Fence.wide.round = none := rfl;rw [hro];obtain ⟨rec,hrec⟩ : ∃ rec : LoopState → Option Code → Loop,rec = fun st pe => { state := st,pending := pe,fn,tmps := a.tmps,params := #[t0],assign,body,defers := w.heap.size } := ⟨_,rfl⟩;have hsz : ((w.alloc (.deferred (some []))).alloc (.loop (rec .ready none))).heap.size = w.heap.size + 2 := by simp
 have hL : ((w.alloc (.deferred (some []))).alloc (.loop (rec .ready none))).heap[w.heap.size + 1]? = some (.loop (rec .ready none)) := by
  have := World.alloc_heap_new (w.alloc (.deferred (some []))) (.loop (rec .ready none))
  rwa [World.size_alloc] at this
 have hD : ((w.alloc (.deferred (some []))).alloc (.loop (rec .ready none))).heap[w.heap.size]? = some (.deferred (some [])) :=
  (Below.heap_alloc _ _ _ (by simp)).trans (World.alloc_heap_new w _)
 have hI0 := hIa _ _ (.loop (rec .ready none)) (hIa _ _ (.deferred (some [])) h0);have hdef : ∀ {W W' : World} {k : Nat} {o : Obj},(∀ j,j ≠ Bn → W'.heap[j]? = W.heap[j]?) → k ≠ Bn → W.heap[k]? = some o → W'.heap[k]? = some o := fun h hk ho => (h _ hk).trans ho
 refine ⟨w.heap.size + 1,[{ target := .collected w.heap.size,args := #[] }],(w.alloc (.deferred (some []))).alloc (.loop (rec .ready none)),{ target := .fn (.func gf) lb,args := #[.func (.yield (w.heap.size + 1)) #[] #[]] },(w.alloc (.deferred (some []))).alloc (.loop (rec .ready none)),gf,
  #[.func (.yield (w.heap.size + 1)) #[] #[]] ++ lb,(w.alloc (.deferred (some []))).alloc (.loop (rec .ready none)),(by rw [hrec]; exact run_enterLoop_outer _ _ _ _ _),?_,?_,?_,?_,?_⟩
 · simp only [resolve,hg];simp [go_sem]
 · intro f' _; trivial
 · simp [invoke,go_sem,eg]
 · intro h; simp [Fence.wide] at h
 have hyt : ∀ n W,n < N → (I n W ∧ W.heap[w.heap.size + 1]? = some (.loop (rec .ready none)) ∧ W.heap[w.heap.size]? = some (.deferred (some []))) → YieldAt Fence.wide (n0 - 1 - 1) P (w.heap.size + 1) #[.int .i64 (n : Int)] W fun e W' => (¬ same n ∧ e = .returned (.bool true) ∧ (I n W' ∧ W'.heap[w.heap.size + 1]? = some (.loop (rec .ready none)) ∧ W'.heap[w.heap.size]? = some (.deferred (some [])))) ∨ (same n ∧ e = .returned (.bool false) ∧ (Ix W' ∧ W'.heap[w.heap.size + 1]? = some (.loop (rec .done (some .ret))) ∧ W'.heap[w.heap.size]? = some (.deferred (some [])))) := by
  rintro n W hn ⟨hi,hl,hk⟩;have hlt : w.heap.size + 1 < W.heap.size := (Array.getElem?_eq_some_iff.1 hl).1;have hy := run_yield (P := P) (args := #[.int .i64 (n : Int)]) hl (by rw [hrec]; rfl);rw [hrec] at hy;have ht : (#[t0].zip #[Value.int .i64 (n : Int)]).foldl (fun tmps (x : Tmp × Value) => tmps.setIfInBounds x.1 x.2) a.tmps = a.tmps.setIfInBounds t0 (.int .i64 (n : Int)) := by simp
  refine ⟨fn,a.tmps.setIfInBounds t0 (.int .i64 (n : Int)),assign,body,?_,roundIn_of_wpIn hfn ?_⟩
  · rw [← ht]; exact hy
  refine hassign _ n W _ ?_;refine ⟨_,run_beginRound hl (by rw [hrec]),?_⟩;have hl2 : (W.putObj (w.heap.size + 1) (.loop { rec .ready none with state := .busy })).heap[w.heap.size + 1]? = some (.loop { rec .ready none with state := .busy }) := World.putObj_heap_same hlt;have hk2 : (W.putObj (w.heap.size + 1) (.loop { rec .ready none with state := .busy })).heap[w.heap.size]? = some (.deferred (some [])) := (World.putObj_heap_other (by omega)).trans hk;refine wpIn_mono (hbody _ n _ hn (hIp _ _ _ _ (by omega) hlt hi)) ?_;rintro e a3 W3 hp
  cases e with
  | normal =>
   obtain ⟨hk3,hne,hi3⟩ := hp;have hl3 := hk3.same _ _ hl2 rfl;have hlt3 := (Array.getElem?_eq_some_iff.1 hl3).1;have hr := run_endRound (P := P) none hl3;refine ⟨_,_,hr,.inl ⟨hne,rfl,hIp _ _ _ _ (by omega) hlt3 hi3,?_,(World.putObj_heap_other (by omega)).trans (hk3.same _ _ hk2 rfl)⟩⟩;rw [World.putObj_heap_same hlt3,hrec];rfl
  | ret =>
   obtain ⟨hk3,hs,hi3⟩ := hp;have hl3 := hk3.same _ _ hl2 rfl;have hlt3 := (Array.getElem?_eq_some_iff.1 hl3).1;have hr := run_endRound (P := P) (some .ret) hl3;refine ⟨_,_,hr,.inr ⟨hs,rfl,hXp _ _ _ (by omega) hlt3 hi3,?_,(World.putObj_heap_other (by omega)).trans (hk3.same _ _ hk2 rfl)⟩⟩;rw [World.putObj_heap_same hlt3,hrec];rfl
  | exit id => exact hp.elim
  | goto t => exact hp.elim
  | panic ch => exact hp.elim
  | outgrown => exact hp.elim
 have hc := hit (w.heap.size + 1)
  (fun n W => I n W ∧ W.heap[w.heap.size + 1]? = some (.loop (rec .ready none)) ∧ W.heap[w.heap.size]? = some (.deferred (some [])))
  (fun W => Ix W ∧ W.heap[w.heap.size + 1]? = some (.loop (rec .done (some .ret))) ∧ W.heap[w.heap.size]? = some (.deferred (some [])))
  (fun n W h => h.1)
  (fun n m W hm h => ⟨hIs n m W hm h.1,(Below.heap_setCell _ _ _ _ (by simp only; omega)).trans h.2.1,(Below.heap_setCell _ _ _ _ (by simp only; omega)).trans h.2.2⟩)
  (fun n W h => ⟨hId n W h.1,h.2.1,h.2.2⟩) hyt ((w.alloc (.deferred (some []))).alloc (.loop (rec .ready none))) ⟨hI0,hL,hD⟩
 refine hc.mono ?_
 · rintro e W2 ⟨⟨v,rfl⟩,(⟨hr,n,hi,hl,hk⟩ | ⟨hr,hi,hl,hk⟩)⟩
   · have hlt := (Array.getElem?_eq_some_iff.1 hl).1;have he := run_endLoop (P := P) hl (by rw [hrec]; simp);rw [hrec] at he;exact ⟨none,_,he,hdone _ n _ (Nat.le_refl _) hr (hIp _ _ _ _ (by omega) hlt hi) ((World.putObj_heap_other (by omega)).trans hk)⟩
   · have hlt := (Array.getElem?_eq_some_iff.1 hl).1;have he := run_endLoop (P := P) hl (by rw [hrec]; simp);rw [hrec] at he;exact ⟨some .ret,_,he,hstop _ _ (Nat.le_refl _) hr (hXp _ _ _ (by omega) hlt hi) ((World.putObj_heap_other (by omega)).trans hk)⟩
end Go.Proofs
