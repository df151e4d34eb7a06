/- CopW Cop Num App Key KeyF Map MapS Clo. -/
import Derived.Test.YtomdfaelgcefdaaGreatDoorProg
import Derived.Tactics
import Derived.Tactics2
import Derived.WalkKit
import Derived.WalkSpells
import Derived.StillTactics
import Derived.Laws.Pointers
import Derived.Laws.IdiomMaps
import Derived.Laws.IdiomRangeMap
import Derived.Deep.RegionHeld3
import Derived.KernelRfl
import Derived.Carry
import Derived.IntWalk
import Derived.Lib.ItoaMem
import Derived.Test.YtomdfaelgcefdaaGreatDoorGak
set_option maxRecDepth 100000
set_option maxHeartbeats 64000000
namespace Go.Proofs
open RowKit
theorem kcell {W : World} {a : Addr} {v : Value} (o : Obj) (h : W.cell? a = some v) : (W.alloc o).cell? a = some v := by
 have hb := World.block_lt_of_cell? W a h
 have : (W.alloc o).heap[a.block]? = W.heap[a.block]? := by
  show (W.heap.push o)[a.block]? = _;rw [Array.getElem?_push]; simp [Nat.ne_of_lt hb]
 simp only [World.cell?,this] at h ⊢;exact h
theorem kheap {W : World} {b : Nat} {x : Obj} (o : Obj) (h : W.heap[b]? = some x) : (W.alloc o).heap[b]? = some x := by
 have hb := (Array.getElem?_eq_some_iff.1 h).1;show (W.heap.push o)[b]? = _;rw [Array.getElem?_push]; simp [Nat.ne_of_lt hb,h]
theorem kalloc3_new (w : World) (A B C : Obj) : (((w.alloc A).alloc B).alloc C).heap[w.heap.size + 1 + 1]? = some C := by
 have h := heap_alloc_new ((w.alloc A).alloc B) C;simpa only [World.size_alloc] using h
theorem knext {P : Program} {W : World} {r bm c s : Nat} {ty : TypeId} (h : W.heap[r]? = some (.mapIter (some bm) s #[] c)) (hm : W.heap[bm]? = some (.map #[] c)) : (Instr.next (.pointer (some ⟨r,0,none⟩)) false ty).run P W = .ok (.tuple #[.bool false]) W := by
 simp [Instr.next,getObj,Sem.run,h,hm,Go.choose,Question.forced]
theorem Tryz.m_copied (b0 bm clock : Nat) (w : World)
    (h0 : w.cell? ⟨b0,0,none⟩ = some (.slice none 0 0)) (h1 : w.cell? ⟨b0,1,none⟩ = some (.map (some bm))) (h2 : w.cell? ⟨b0,2,none⟩ = some (.int .i64 0))
    (hm : w.heap[bm]? = some (.map #[] clock)) :
    Calls Tryz.prog 227 #[.pointer (some ⟨b0,0,none⟩)] w fun e w' => ∃ g,w.heap.size ≤ g ∧ e = .returned (.agg #[.slice none 0 0,.map (some g),.int .i64 0]) ∧ w'.heap[g]? = some (.map #[] 0) ∧ Below w.heap.size w w' := by
 have hmm := @run_makeMap Tryz.prog;have eg : w.heap.size ≠ b0 := World.new_ne w ⟨b0,0,none⟩ h0
 go_enter Tryz.func227,Tryz.ntmps227
 go_wp
 go_region_held3 (fun w' => w'.cell? ⟨b0,0,none⟩ = some (.slice none 0 0) ∧ w'.cell? ⟨b0,1,none⟩ = some (.map (some bm)) ∧ w'.cell? ⟨b0,2,none⟩ = some (.int .i64 0) ∧ w'.heap[bm]? = some (.map #[] clock)) (refine ⟨?_,?_,?_,?_⟩ <;> ((try simp only [World.cell?_drew,World.heap_drew]); (repeat (first | assumption | (refine kcell _ ?_) | (refine kheap _ ?_))))) (fail)
 all_goals
  rename_i hHeld;obtain ⟨k0,k1,k2,k3⟩ := hHeld;have hrm := run_range_map (P := Tryz.prog) _ 274 9 3 bm #[] clock Tryz.underlying274 k3
  go_wp2
 all_goals
  refine wp_loop_once ?_;have hnx := knext (P := Tryz.prog) (ty := 0) (heap_alloc_new _ (.mapIter (some bm) clock #[] clock)) (kheap (.mapIter (some bm) clock #[] clock) k3);simp only [World.alloc_drew,World.size_alloc,World.size_drew] at hnx
  go_wp2
 all_goals first
  | exact bodyPost_ret (results_cell_row (fn := Tryz.f227) rfl _ _ w.heap.size 277 #[.slice none 0 0,.map (some (w.heap.size + 1)),.int .i64 0] (0,0) _ rfl (kheap _ (kheap _ (kheap _ (heap_alloc_new w _)))) Tryz.underlying277 rfl (by kernel_rfl)) rfl ⟨w.heap.size + 1,by omega,rfl,kheap _ (kheap _ (heap_alloc2_new w _ _)),(((((Below.refl _ w).alloc (Nat.le_refl _) _).alloc (by simp only [World.size_alloc]; omega) _).alloc (by simp only [World.size_alloc]; omega) _).alloc (by simp only [World.size_alloc]; omega) _).drew⟩
  | exact bodyPost_ret (results_cell_row (fn := Tryz.f227) rfl _ _ w.heap.size 277 #[.slice none 0 0,.map (some (w.heap.size + 1 + 1)),.int .i64 0] (0,0) _ rfl (kheap _ (kheap _ (kheap _ (heap_alloc_new w _)))) Tryz.underlying277 rfl (by kernel_rfl)) rfl ⟨w.heap.size + 1 + 1,by omega,rfl,kheap _ (kalloc3_new w _ _ _),(((((Below.refl _ w).alloc (Nat.le_refl _) _).alloc (by simp only [World.size_alloc]; omega) _).alloc (by simp only [World.size_alloc]; omega) _).alloc (by simp only [World.size_alloc]; omega) _).drew⟩
end Go.Proofs
namespace Go.Proofs.YtomdfaelgcefdaaGreatDoor
open Go Go.RowKit
namespace Sh
variable {K : Type} {El : K → Type} {S : Seat K El}
theorem ext_below {E : Env} {w w' : World} (h : Below w.heap.size w w') {g : Nat} (hg : w.heap.size ≤ g) : Ext E w ⟨E.ρ ++ [.blk g],E.F⟩ w' where
 size := h.size
 keep b hb _ := h.block b hb
 shape b s hs := by
  have hb : b < w.heap.size := by
   rcases Nat.lt_or_ge b w.heap.size with hlt | hge
   · exact hlt
   · simp [World.shape?,Array.getElem?_eq_none hge] at hs
  simp only [World.shape?] at hs ⊢;rw [h.block b hb];exact hs
 mono i l hl := .inl (by simp only []; rw [List.getElem?_append_left (List.getElem?_eq_some_iff.1 hl).1]; exact hl)
 fresh i b hi := by
  simp only [] at hi
  rcases Nat.lt_or_ge i E.ρ.length with hlt | hge
  · rw [List.getElem?_append_left hlt] at hi; exact .inl ⟨i,hi⟩
  · rw [List.getElem?_append_right hge] at hi
    cases hq : i - E.ρ.length with
    | zero => rw [hq] at hi; simp at hi; exact .inr (by omega)
    | succ n => rw [hq] at hi; simp at hi
 F := rfl
 os := h.os
 tape := h.tape
 output := h.output
theorem emb_below (ok : Ok S) {E : Env} {H : Heap K El} {w w' : World} (hE : Emb S E H w) (h : Below w.heap.size w w') {g : Nat} (hg : w.heap.size ≤ g) (hg2 : g < w'.heap.size)
    {o : AO K El} (ho : OR S ⟨E.ρ ++ [.blk g],E.F⟩ w' o (.blk g)) : Emb S ⟨E.ρ ++ [.blk g],E.F⟩ (H ++ [o]) w' := by
 have hx : Ext E w ⟨E.ρ ++ [.blk g],E.F⟩ w' := ext_below h hg
 have split : ∀ (i : Nat) (l : Loc),(E.ρ ++ [.blk g])[i]? = some l → (E.ρ[i]? = some l ∧ i < E.ρ.length) ∨ (i = E.ρ.length ∧ l = .blk g) := by
  intro i l hi
  rcases Nat.lt_or_ge i E.ρ.length with hlt | hge
  · rw [List.getElem?_append_left hlt] at hi; exact .inl ⟨hi,hlt⟩
  · rw [List.getElem?_append_right hge] at hi
    cases hq : i - E.ρ.length with
    | zero => rw [hq] at hi; simp at hi; exact .inr ⟨by omega,hi.symm⟩
    | succ n => rw [hq] at hi; simp at hi
 refine ⟨by simp [hE.len],fun i o' l ho' hi => ?_,fun i j b hi hj => ?_,fun i b hi => ?_,fun b hF => ⟨Nat.lt_of_lt_of_le (hE.F b hF).1 h.size,fun i hi => ?_⟩,hE.gl.ext ok hx⟩
 · rcases split i l hi with ⟨h1,h2⟩ | ⟨rfl,rfl⟩
   · rw [List.getElem?_append_left (by rw [← hE.len]; exact h2)] at ho';exact OR.mono ok hx (fun b hb => by subst hb; exact h.block b (hE.lt i b h1)) (hE.obj i o' l ho' h1)
   · rw [hE.len,List.getElem?_append_right (Nat.le_refl _)] at ho';simp at ho';subst ho';exact ho
 · rcases split i _ hi with ⟨h1,h2⟩ | ⟨rfl,h2⟩ <;> rcases split j _ hj with ⟨k1,k2⟩ | ⟨rfl,k2⟩
   · exact hE.inj i j b h1 k1
   · have := hE.lt i b h1; simp only [Loc.blk.injEq] at k2; omega
   · have := hE.lt j b k1; simp only [Loc.blk.injEq] at h2; omega
   · rfl
 · rcases split i _ hi with ⟨h1,h2⟩ | ⟨rfl,h2⟩
   · exact Nat.lt_of_lt_of_le (hE.lt i b h1) h.size
   · simp only [Loc.blk.injEq] at h2; subst h2; exact hg2
 · rcases split i _ hi with ⟨h1,h2⟩ | ⟨rfl,h2⟩
   · exact (hE.F b hF).2 i h1
   · have := (hE.F b hF).1; simp only [Loc.blk.injEq] at h2; omega
def tab0 : Heap KT ElT := [.cells [.nils,.mp 1,.int .i64 0,.bool true],.map []]
theorem c_copied : SpecD Sh.S 227 [.ptr 0 0] tab0 (.agg [.nils,.mp 2,.int .i64 0]) (tab0 ++ [.map []]) := by
 intro E w args hE hsz hva;obtain ⟨v,hv1,hv2⟩ := hva 0 (.ptr 0 0) rfl
 obtain rfl : args = #[v] := by
  have h1 : args.size = 1 := hsz;refine Array.ext (by simp [h1]) fun i hi1 hi2 => ?_;obtain rfl : i = 0 := by simp at hi2; omega
  have := Array.getElem?_eq_some_iff.1 hv1;simpa using this.2
 have hl : E.ρ.length = 2 := hE.len;obtain ⟨l0,h0⟩ : ∃ l,E.ρ[0]? = some l := ⟨_,List.getElem?_eq_getElem (by omega)⟩;obtain ⟨l1,h1⟩ : ∃ l,E.ρ[1]? = some l := ⟨_,List.getElem?_eq_getElem (by omega)⟩;have o0 := hE.obj 0 _ l0 rfl h0;have o1 := hE.obj 1 _ l1 rfl h1
 cases l0 with
 | gone => exact o0.elim
 | nil => exact o0.elim
 | blk b0 =>
  cases l1 with
  | gone => exact o1.elim
  | nil => exact o1.elim
  | blk bm =>
   have hv : v = .pointer (some ⟨b0,0,none⟩) := by
    cases (show VR Sh.S E w (.ptr 0 0) v from hv2) with
    | ptr h => rw [h0] at h; cases h; rfl
    | ptrGone h _ => rw [h0] at h; cases h
   subst hv;obtain ⟨c,e,hb,hcs,hc⟩ := o0;obtain ⟨es,ck,hm,hes,_⟩ := o1;obtain rfl : es = #[] := Array.eq_empty_of_size_eq_zero (by simpa using hes);obtain ⟨v0,k0,_,r0⟩ := hc 0 _ rfl;obtain ⟨v1,k1,_,r1⟩ := hc 1 _ rfl;obtain ⟨v2,k2,_,r2⟩ := hc 2 _ rfl;cases r0;cases r2
   have hv1 : v1 = .map (some bm) := by
    cases r1 with
    | mp h => rw [h1] at h; cases h; rfl
    | mpGone h _ => rw [h1] at h; cases h
   subst hv1;refine (Tryz.m_copied b0 bm ck w (by simp only [World.cell?,hb]; exact k0) (by simp only [World.cell?,hb]; exact k1) (by simp only [World.cell?,hb]; exact k2) hm).mono ?_;rintro e' w' ⟨g,hg,rfl,hgm,hB⟩;have hx : Ext E w ⟨E.ρ ++ [.blk g],E.F⟩ w' := ext_below hB hg;have hlt := (Array.getElem?_eq_some_iff.1 hgm).1;refine ⟨_,_,⟨E.ρ ++ [.blk g],E.F⟩,_,rfl,⟨rfl,rfl⟩,⟨_,rfl,rfl,fun j u hj => ?_⟩,emb_below (o := .map []) ok hE hB hg hlt ⟨#[],0,hgm,rfl,fun j e h => by simp at h⟩,hx⟩
   match j,hj with
   | 0,hj => cases hj; exact ⟨_,rfl,rfl,.nils⟩
   | 1,hj => cases hj; exact ⟨_,rfl,rfl,.mp (by simp [hl])⟩
   | 2,hj => cases hj; exact ⟨_,rfl,rfl,.int _ _⟩
end Sh
end Go.Proofs.YtomdfaelgcefdaaGreatDoor
namespace Go.Proofs.YtomdfaelgcefdaaGreatDoor
open Go Go.RowKit
namespace Sh
section
variable {K : Type} {El : K → Type} {S : Seat K El}
theorem emb_eq (ok : Ok S) {E : Env} {H : Heap K El} {w w1 : World} (hE : Emb S E H w) (hh : w1.heap = w.heap) (ht : w1.tape = w.tape) (hos : w1.os = w.os) (hout : w1.output = w.output) : Emb S E H w1 := by
 have hx : Ext E w E w1 := ext_of_eq hh ht hos hout;exact ⟨hE.len,fun i o l ho hl => OR.mono ok hx (fun b _ => by rw [hh]) (hE.obj i o l ho hl),hE.inj,fun i b h => by rw [hh]; exact hE.lt i b h,fun b hF => by rw [hh]; exact hE.F b hF,hE.gl.ext ok hx⟩
theorem spec_still {f : Nat} {us : List (AV K El)} {r : AV K El} (h : ∀ (E : Env) (w : World) (args : Array Value),S.inv w → args.size = us.length → (∀ (j : Nat) u,us[j]? = some u → ∃ v,args[j]? = some v ∧ VR2 S E w u v) →
    Calls S.P f args w fun e w' => ∃ v,e = .returned v ∧ w' = w ∧ VRv S E w r v) : SpecD S f us [] r [] := by
 intro E w args hE hsz hva;refine (h E w args hE.gl.inv hsz hva).mono ?_;rintro e w' ⟨v,rfl,rfl,hv⟩;exact ⟨v,r,E,[],rfl,⟨rfl,rfl⟩,hv,hE,Ext.refl⟩
end
theorem args1 {E : Env} {w : World} {args : Array Value} {k : IntKind} {n : Int} (hs : args.size = 1) (h : ∃ v,args[0]? = some v ∧ VR2 S E w (.int k n) v) : args = #[.int k n] := by
 obtain ⟨v,hv1,hv2⟩ := h;cases (show VR S E w (.int k n) v from hv2);refine Array.ext (by simp [hs]) fun i hi1 hi2 => ?_;obtain rfl : i = 0 := by simp at hi2; omega
 have := Array.getElem?_eq_some_iff.1 hv1;simpa using this.2
def dec (n : Nat) : ByteArray := ⟨(Lib.decDigits n).toArray⟩
theorem c_small (n : Nat) (h : n < 100) : SpecD S 271 [.int .i64 n] [] (.str (dec n)) [] := spec_still fun E w args _ hs ha => by
 obtain rfl := args1 hs (ha 0 _ rfl);refine (Tryz.internal_strconv_small n h w).mono ?_;rintro e w' ⟨rfl,rfl⟩;exact ⟨_,rfl,rfl,VR.str _⟩
theorem c_numDigits (u : Nat) (h1 : 1 ≤ u) (h2 : u < 18446744073709551616) : SpecD S 272 [.int .u64 u] [] (.int .i64 (Lib.nDigits u)) [] := spec_still fun E w args hi hs ha => by
 obtain rfl := args1 hs (ha 0 _ rfl);refine (Tryz.internal_strconv_numDigits u h1 h2 w hi).mono ?_;rintro e w' ⟨rfl,rfl⟩;exact ⟨_,rfl,rfl,VR.int _ _⟩
def decI (u : Nat) : List (ElT .u8) := (Lib.decDigits u).map fun b => ((b.toNat : Nat) : Int)
theorem decI_len (u : Nat) : (decI u).length = Lib.nDigits u := by simp [decI,Lib.decDigits_length]
theorem setRow_putRow {w : World} {b : Nat} {c : Array Value} {e : TypeId} {fr : Nat × Nat} {α : Type} [Inhabited α] (enc : α → Value) (d : Array α) (h : w.heap[b]? = some (.cells c e fr)) : Sort.putRow enc w b 0 d = w.setRow b (Sort.putCells enc 0 d c) := by
 unfold Sort.putRow Sort.mapBlock World.setRow
 congr 1
 apply Array.ext_getElem?;intro k;simp only [Array.getElem?_modify]
 by_cases hk : b = k
 · subst hk;rw [h];rfl
 · simp [hk]
theorem c_fmt (u : Nat) (h0 : 1 ≤ u) (hu : u < 18446744073709551616) : SpecD S 273 [.own .u8 0 0 (Lib.nDigits u) .unk,.int .u64 u] [.arr .u8 (List.replicate 24 (0 : Int))] (.tup []) [.arr .u8 (decI u ++ List.replicate (24 - Lib.nDigits u) (0 : Int))] := by
 have hnd : Lib.nDigits u ≤ 20 := by have := Lib.numDigits_eq u h0 hu; split at this <;> omega
 intro E w args hE hsz hva;obtain ⟨v0,a0,b0⟩ := hva 0 _ rfl;obtain ⟨v1,a1,b1⟩ := hva 1 _ rfl;cases (show VR S E w (.int .u64 u) v1 from b1)
 have hargs : args = #[v0,.int .u64 u] := by
  refine Array.ext (by simpa using hsz) fun i hi1 hi2 => ?_;have hi : i = 0 ∨ i = 1 := by simp at hi2; omega
  rcases hi with rfl | rfl
  · have := Array.getElem?_eq_some_iff.1 a0; simpa using this.2
  · have := Array.getElem?_eq_some_iff.1 a1; simpa using this.2
 subst hargs;have hl : E.ρ.length = 1 := hE.len;obtain ⟨l0,h00⟩ : ∃ l,E.ρ[0]? = some l := ⟨_,List.getElem?_eq_getElem (by omega)⟩;have o0 := hE.obj 0 _ l0 rfl h00
 cases l0 with
 | gone => exact o0.elim
 | nil => exact o0.elim
 | blk b =>
  obtain ⟨c,e,hb,hcs,hc⟩ := o0;have hcs' : c.size = 24 := by rw [hcs]; rfl
  obtain ⟨nd,hnde,b0⟩ : ∃ nd,nd = Lib.nDigits u ∧ VR S E w (.own .u8 0 0 nd .unk) v0 := ⟨_,rfl,b0⟩
  cases b0 with
  | ownGone h _ => rw [h00] at h; cases h
  | ownNil h => rw [h00] at h; cases h
  | @own _ _ _ _ _ b' o cap h hf hw hle hm ho =>
   rw [h00] at h;cases h;subst hnde
   obtain rfl : o = 0 := by rcases ho with ho | ⟨h,_⟩; exact (by simpa using ho); exact absurd rfl h
   have hcell : ∀ j : Nat,j < 24 → c[j]? = some (.int .u8 0) := by
    intro j hj;obtain ⟨v,k1,k2⟩ := hc j (0 : Int) (by rw [List.getElem?_replicate,if_pos hj]) 0 (.int .u8 0) rfl;cases k2;simpa [S] using k1
   have hH : Sort.Holds (fun (b : UInt8) => Value.int .u8 (b.toNat : Int)) w b 0 (Array.replicate (Lib.nDigits u) (0 : UInt8)) := by
    intro j hj;have hj' : j < Lib.nDigits u := by simpa using hj
    refine ⟨?_,by simp [World.frozen?,hb]⟩;simp only [World.cell?,hb,Nat.zero_add];rw [hcell j (by omega)];simp [hj']
   have := Tryz.internal_strconv_formatBase10 b 0 cap u (Array.replicate (Lib.nDigits u) (0 : UInt8)) w hH (by rw [Array.size_replicate]; exact Lib.lt_pow_nDigits u) hu (by rw [Array.size_replicate]; omega);rw [Array.size_replicate] at this;refine this.mono ?_;rintro e' w' ⟨rfl,n,v',dk,rfl,hF⟩;rw [setRow_putRow _ dk hb];have hs' : (Sort.putCells (fun (b : UInt8) => Value.int .u8 (b.toNat : Int)) 0 dk c).size = c.size := by simp [Sort.putCells]
   have hxt := ext_setRow (E := E) h00 hb hs'
   have hem := emb_setRow ok hE h00 hb hs' (o := .arr .u8 (decI u ++ List.replicate (24 - Lib.nDigits u) (0 : Int))) (by
    refine ⟨_,e,setRow_heap w b c _ _ _ hb,by rw [hs',hcs',List.length_append,decI_len,List.length_replicate]; show 24 = _ * 1; omega,fun j x hx t y hy => ?_⟩;have hj : j < 24 := by have := (List.getElem?_eq_some_iff.1 hx).1; rw [List.length_append,decI_len,List.length_replicate] at this; omega
    have ht : t = 0 := by have := (List.getElem?_eq_some_iff.1 hy).1; simp [S,encT,enc_u8] at this; omega
    subst ht;obtain rfl : y = .int .u8 x := by simpa [S,encT,enc_u8] using hy.symm
    have hsz1 : S.size .u8 = 1 := rfl;rw [hsz1,Nat.mul_one,Nat.add_zero];refine ⟨.int .u8 x,?_,.int _ _⟩;have hdk : dk.size = Lib.nDigits u := hF.size;have hcj := hcell j hj;obtain ⟨hjc,hcv⟩ := Array.getElem?_eq_some_iff.1 hcj;simp only [Sort.putCells,Array.getElem?_mapIdx,hcj,Option.map_some,Nat.zero_le,true_and,Nat.zero_add,Nat.sub_zero,hdk]
    by_cases hlt : j < Lib.nDigits u
    · rw [if_pos hlt];rw [List.getElem?_append_left (by rw [decI_len]; exact hlt)] at hx;simp only [decI,List.getElem?_map] at hx;have hjd : j < (Lib.decDigits u).length := by rw [Lib.decDigits_length]; exact hlt
      rw [List.getElem?_eq_getElem hjd] at hx;simp only [Option.map_some,Option.some.injEq] at hx;rw [← hx,Lib.row_is_numeral hF j hjd]
    · rw [if_neg hlt];rw [List.getElem?_append_right (by rw [decI_len]; omega),List.getElem?_replicate,if_pos (by rw [decI_len]; omega)] at hx;simp only [Option.some.injEq] at hx
      rw [← hx])
   exact ⟨_,.tup [],E,_,rfl,⟨rfl,rfl⟩,⟨#[],rfl,rfl,fun j u hu => by simp at hu⟩,emb_eq ok hem (by simp) rfl rfl rfl,hxt.trans (ext_of_eq (by simp) rfl rfl rfl)⟩
end Sh
end Go.Proofs.YtomdfaelgcefdaaGreatDoor
namespace Go.Proofs.YtomdfaelgcefdaaGreatDoor
open Go
namespace Sh
theorem wrap_i64 {n : Int} (h0 : -9223372036854775808 ≤ n) (h1 : n ≤ 9223372036854775807) : IntKind.i64.wrap n = n := IntWalk.i64_in _ ⟨h0,h1⟩
theorem rowOf_u8 (l : List UInt8) : rowOf S .u8 (bytesV ⟨l.toArray⟩) = some (l.map fun b => ((b.toNat : Nat) : Int)) := by
 simp only [bytesV]
 induction l with
 | nil => rfl
 | cons b l ih =>
  simp only [List.map_cons,rowOf] at ih ⊢;rw [ih];rfl
theorem c_au (u n : Nat) (bs : List (ElT .u8)) (hu : u < 18446744073709551616) (hn : n ≤ bs.length) (hl : n ≤ 140737488355306) :
    SpecD S 270 [.own .u8 0 0 n .whole,.int .u64 u,.int .i64 10] [.row .u8 bs] (.own .u8 1 0 (n + (decI u).length) .whole) [.gone,.row .u8 (bs.take n ++ decI u)] := by
 refine specE ok sh270 rfl ?_;(conv=>whnf);cases h : decide ((u : Int) < 100)
 rotate_left
 · have hp := of_decide_eq_true h
   have hdl : (decI u).length ≤ 20 := by
    rw [decI_len]
    by_cases h10 : u < 10
    · rw [Lib.nDigits_small h10]; omega
    · rw [Lib.nDigits_big (by omega),Lib.nDigits_small (show u / 10 < 10 by omega)]; omega
   (conv=>whnf);rw [wrap_i64 (show -9223372036854775808 ≤ (u : Int) by omega) (by omega)];refine cQ [] (c_small u (by omega)) ?_;(conv=>whnf);refine ⟨⟨decI u,rowOf_u8 _,?_⟩⟩;have hdl0 : (decI u).length = Lib.nDigits u := decI_len u;generalize decI u = d at hdl hdl0 ⊢;(conv=>whnf);refine ⟨rfl,by show 0 + n ≤ bs.length; omega,⟨by show n + d.length ≤ maxLen; unfold maxLen; omega,by show (n + d.length) * 1 ≤ _; omega⟩,rfl,?_⟩;(conv=>whnf);exact eQ [0,1] (by exact ⟨rfl,rfl⟩)
 · have hp := of_decide_eq_false h;have hd := c_numDigits u (by omega) hu;have hf := c_fmt u (by omega) hu;have hdl0 : (decI u).length = Lib.nDigits u := decI_len u;have hnd : Lib.nDigits u ≤ 20 := by have := Lib.numDigits_eq u (by omega) hu; split at this <;> omega
   generalize hdd : decI u = d at hf hdl0 ⊢;generalize Lib.nDigits u = m at hd hf hdl0 hnd;(conv=>whnf);refine cQ [] hd ?_;(conv=>whnf);refine ⟨rfl,rfl,by omega,by omega,by unfold maxLen; omega,?_⟩;(conv=>whnf);refine cQ [1] hf ?_;(conv=>whnf);refine ⟨rfl,?_,by omega,by omega,by unfold maxLen; omega,?_⟩
   · simp; omega
   (conv=>whnf);have ht : ((d ++ List.replicate (24 - m) (0 : Int)).drop 0).take (m : Int).toNat = d := by rw [Int.toNat_natCast,List.drop_zero,← hdl0,List.take_left]
   refine ⟨rfl,?_,?_⟩
   · simp; omega
   rw [ht];(conv=>whnf);refine ⟨rfl,by show 0 + n ≤ bs.length; omega,⟨by show n + d.length ≤ maxLen; unfold maxLen; omega,by show (n + d.length) * 1 ≤ _; omega⟩,rfl,?_⟩;(conv=>whnf);exact eQ [0,2] (by exact ⟨rfl,rfl⟩)
def neg1 (x : Int) : List (ElT .u8) := if x < 0 then [45] else []
def itoaI (x : Int) : List (ElT .u8) := neg1 x ++ decI x.natAbs
theorem itoaI_len (x : Int) (h0 : -9223372036854775808 ≤ x) (h1 : x ≤ 9223372036854775807) : (itoaI x).length ≤ 21 := by
 have hd : (decI x.natAbs).length ≤ 20 := by
  rw [decI_len]
  by_cases h : 1 ≤ x.natAbs
  · have := Lib.numDigits_eq x.natAbs h (by omega); split at this <;> omega
  · have : x.natAbs = 0 := by omega
    rw [this,Lib.nDigits_small (by decide)]; omega
 unfold itoaI neg1;split <;> simp <;> omega
theorem c_ai (x : Int) (n : Nat) (bs : List (ElT .u8)) (h0 : -9223372036854775808 ≤ x) (h1 : x ≤ 9223372036854775807) (hn : n ≤ bs.length) (hl : n ≤ 140737488355305) :
    SpecD S 267 [.own .u8 0 0 n .whole,.int .i64 x,.int .i64 10] [.row .u8 bs] (.own .u8 1 0 (n + (itoaI x).length) .whole) [.gone,.row .u8 (bs.take n ++ itoaI x)] := by
 have hneg : ¬ x < 0 → IntKind.u64.wrap x = ((x.natAbs : Nat) : Int) := fun h => by
  rw [show IntKind.u64.wrap x = x % 18446744073709551616 from rfl]; omega
 have hneg2 : x < 0 → IntKind.u64.wrap (0 - IntKind.u64.wrap x) = ((x.natAbs : Nat) : Int) := fun h => by
  rw [show IntKind.u64.wrap x = x % 18446744073709551616 from rfl,show ∀ y : Int,IntKind.u64.wrap y = y % 18446744073709551616 from fun _ => rfl]; omega
 unfold itoaI neg1;refine specE ok sh267 rfl ?_;(conv=>whnf);cases h : decide (x < 0)
 · have hp := of_decide_eq_false h;rw [if_neg hp];(conv=>whnf);rw [hneg hp];have hc := c_au x.natAbs n bs (by omega) hn (by omega);generalize decI x.natAbs = d at hc ⊢;refine cQ [0] hc ?_;(conv=>whnf);exact eQ [0,1] (by exact ⟨rfl,rfl⟩)
 · have hp := of_decide_eq_true h;rw [if_pos hp];(conv=>whnf);refine ⟨rfl,by simp,?_⟩;(conv=>whnf);refine ⟨rfl,by show 0 + n ≤ bs.length; omega,⟨by show n + 1 ≤ maxLen; unfold maxLen; omega,by show (n + 1) * 1 ≤ _; omega⟩,rfl,?_⟩;(conv=>whnf);rw [hneg2 hp];have hc := c_au x.natAbs (n + 1) (bs.take n ++ [(45 : Int)]) (by omega) (by simp; omega) (by omega);generalize decI x.natAbs = d at hc ⊢;refine cQ [2] hc ?_;(conv=>whnf);refine eQ [0,3] ⟨?_,?_⟩
   · show (AV.own .u8 1 0 (n + 1 + d.length) .whole : V) = .own .u8 1 0 (n + ([45] ++ d).length) .whole;simp; omega
   · show ([AO.gone,AO.row .u8 (List.take (n + 1) (List.take n bs ++ [(45 : Int)]) ++ d)] : Heap KT ElT) = [.gone,.row .u8 (bs.take n ++ ([45] ++ d))];rw [List.take_of_length_le (by simp; omega),List.append_assoc]
theorem c_AppendInt (x : Int) (n : Nat) (bs : List (ElT .u8)) (h0 : -9223372036854775808 ≤ x) (h1 : x ≤ 9223372036854775807) (hn : n ≤ bs.length) (hl : n ≤ 140737488355305) :
    SpecD S 258 [.own .u8 0 0 n .whole,.int .i64 x,.int .i64 10] [.row .u8 bs] (.own .u8 1 0 (n + (itoaI x).length) .whole) [.gone,.row .u8 (bs.take n ++ itoaI x)] := by
 have hc := c_ai x n bs h0 h1 hn hl;generalize itoaI x = d at hc ⊢;refine specE ok sh258 rfl ?_;(conv=>whnf);refine cQ [0] hc ?_;(conv=>whnf);exact eQ [0,1] (by exact ⟨rfl,rfl⟩)
end Sh
end Go.Proofs.YtomdfaelgcefdaaGreatDoor
namespace Go.Proofs.YtomdfaelgcefdaaGreatDoor
open Go
namespace Sh
abbrev I64 (x : Int) : Prop := -9223372036854775808 ≤ x ∧ x ≤ 9223372036854775807
def kN (x : Int) : List (ElT .u8) := itoaI x ++ [32]
def kF (b : Bool) : List (ElT .u8) := if b then [43] else []
def kV (v : El_vt) : List (ElT .u8) := kN v.num ++ kF v.null ++ kN v.heap
theorem kN_len (x : Int) (h0 : -9223372036854775808 ≤ x) (h1 : x ≤ 9223372036854775807) : (kN x).length ≤ 22 := by
 have := itoaI_len x h0 h1;unfold kN; simp; omega
theorem c_kn (x : Int) (n : Nat) (bs : List (ElT .u8)) (h0 : -9223372036854775808 ≤ x) (h1 : x ≤ 9223372036854775807) (hn : n = bs.length) (hl : n ≤ 140737488355300) :
    SpecD S 257 [.int .i64 x,.ptr 0 0] [.cells [.own .u8 1 0 n .whole],.row .u8 bs] (.tup []) [.cells [.own .u8 2 0 (n + (kN x).length) .whole],.gone,.row .u8 (bs ++ kN x)] := by
 have hc := c_AppendInt x n bs h0 h1 (by omega) (by omega);have hlen := itoaI_len x h0 h1;unfold kN;generalize itoaI x = d at hc hlen ⊢;refine specE ok sh257 rfl ?_;(conv=>whnf);refine cQ [1] hc ?_;(conv=>whnf);refine ⟨rfl,by simp,?_⟩;(conv=>whnf);refine ⟨rfl,by simp; omega,⟨by show n + d.length + 1 ≤ maxLen; unfold maxLen; omega,by show (n + d.length + 1) * 1 ≤ _; omega⟩,rfl,?_⟩;(conv=>whnf);refine eQ [0,1,4] ⟨rfl,?_⟩;subst hn;show ([AO.cells [.own .u8 2 0 (bs.length + d.length + 1) .whole],.gone,.row .u8 (List.take (bs.length + d.length) (List.take bs.length bs ++ d) ++ [(32 : Int)])] : Heap KT ElT) = _;rw [List.take_length,List.take_of_length_le (by simp),List.append_assoc];simp [Nat.add_assoc]
theorem c_kf (b : Bool) (n : Nat) (bs : List (ElT .u8)) (hn : n = bs.length) (hl : n ≤ 140737488355300) :
    SpecD S 259 [.bool b,.ptr 0 0] [.cells [.own .u8 1 0 n .whole],.row .u8 bs] (.tup []) (if b then [.cells [.own .u8 2 0 (n + 1) .whole],.gone,.row .u8 (bs ++ [43])] else [.cells [.own .u8 1 0 n .whole],.row .u8 bs]) := by
 cases b
 · refine specE ok sh259 rfl ?_;(conv=>whnf);exact eQ [0,1] (by exact ⟨rfl,rfl⟩)
 · refine specE ok sh259 rfl ?_;(conv=>whnf);refine ⟨rfl,by simp,?_⟩;(conv=>whnf);refine ⟨rfl,by simp; omega,⟨by show n + 1 ≤ maxLen; unfold maxLen; omega,by show (n + 1) * 1 ≤ _; omega⟩,rfl,?_⟩;(conv=>whnf);refine eQ [0,1,3] ⟨rfl,?_⟩;subst hn;show ([AO.cells [.own .u8 2 0 (bs.length + 1) .whole],.gone,.row .u8 (List.take bs.length bs ++ [(43 : Int)])] : Heap KT ElT) = _;rw [List.take_length];rfl
theorem c_kv (v : El_vt) (n : Nat) (bs : List (ElT .u8)) (ha : I64 v.num) (hc : I64 v.heap) (hn : n = bs.length) (hl : n ≤ 140737488355200) :
    SpecD S 260 [.agg [.int .i64 v.num,.bool v.null,.int .i64 v.heap],.ptr 0 0,.ptr 1 0] [.cells [.clo 257 [some 2]],.cells [.clo 259 [some 2]],.cells [.own .u8 3 0 n .whole],.row .u8 bs] (.tup [])
     [.cells [.clo 257 [some 2]],.cells [.clo 259 [some 2]],.cells [.own .u8 4 0 (n + (kV v).length) .whole],.gone,.row .u8 (bs ++ kV v)] := by
 obtain ⟨a,b,c⟩ := v;simp only at ha hc;have l1 := kN_len a ha.1 ha.2;have l2 := kN_len c hc.1 hc.2;have k1 := c_kn a n bs ha.1 ha.2 hn (by omega);unfold kV;cases b
 · have k2 := c_kn c (n + (kN a).length) (bs ++ kN a) hc.1 hc.2 (by simp [hn]) (by omega);have kf := c_kf false (n + (kN a).length) (bs ++ kN a) (by simp [hn]) (by omega);generalize kN a = x at *;generalize kN c = y at *;refine specE ok sh260 rfl ?_;(conv=>whnf);refine cQ [2,3] k1 ?_;(conv=>whnf);refine cQ [2,5] kf ?_;(conv=>whnf);refine cQ [2,5] k2 ?_;(conv=>whnf);refine eQ [0,1,2,3,6] ⟨rfl,?_⟩;show ([AO.cells [.clo 257 [some 2]],.cells [.clo 259 [some 2]],.cells [.own .u8 4 0 (n + x.length + y.length) .whole],.gone,.row .u8 (bs ++ x ++ y)] : Heap KT ElT) = _;simp [kF,Nat.add_assoc]
 · have k2 := c_kn c (n + (kN a).length + 1) (bs ++ kN a ++ [43]) hc.1 hc.2 (by simp [hn]; omega) (by omega);have kf := c_kf true (n + (kN a).length) (bs ++ kN a) (by simp [hn]) (by omega);generalize kN a = x at *;generalize kN c = y at *;refine specE ok sh260 rfl ?_;(conv=>whnf);refine cQ [2,3] k1 ?_;(conv=>whnf);refine cQ [2,5] kf ?_;(conv=>whnf);refine cQ [2,6] k2 ?_;(conv=>whnf);refine eQ [0,1,2,3,7] ⟨rfl,?_⟩;show ([AO.cells [.clo 257 [some 2]],.cells [.clo 259 [some 2]],.cells [.own .u8 4 0 (n + x.length + 1 + y.length) .whole],.gone,.row .u8 (bs ++ x ++ [43] ++ y)] : Heap KT ElT) = _;simp [kF,Nat.add_assoc,Nat.add_comm,Nat.add_left_comm]
end Sh
end Go.Proofs.YtomdfaelgcefdaaGreatDoor
namespace Go.Proofs.YtomdfaelgcefdaaGreatDoor
open Go
namespace Sh
theorem i64_of {x : Int} (h : wf .i64 x) : I64 x := by
 have h2 : IntKind.i64.min ≤ x ∧ x ≤ 9223372036854775807 := by simpa [wf,Lit.wf] using h
 exact h2
theorem i64_len {n : Nat} (h : n ≤ 1048576) : I64 (n : Int) := ⟨by omega,by omega⟩
def kD (f : El_fld) : List (ElT .u8) := kF f.mu ++ kV ⟨f.num,f.null,f.heap⟩
def kS (s : El_sub) : List (ElT .u8) :=
 kF s.final ++ kN (s.supers.getD []).length ++ (s.supers.getD []).flatMap kN ++ kN s.kind ++ kN (s.params.getD []).length ++ (s.params.getD []).flatMap kV ++ kN (s.results.getD []).length ++ (s.results.getD []).flatMap kV ++ kN (s.fields.getD []).length ++ (s.fields.getD []).flatMap kD
def keyL (l : List El_sub) : List (ElT .u8) := l.flatMap kS
noncomputable def keyB (l : List El_sub) : ByteArray := bytesS S .u8 (keyL l)
def kyV (l : List El_sub) (j : Int) : List V := [.ptr 0 0,.ptr 1 0,.ptr 2 0,.clo 260 [some 1,some 2],.imm .sub l,.int .i64 l.length,.int .i64 j]
def kyH (n : Nat) (bs : List (ElT .u8)) : Heap KT ElT := [.cells [.own .u8 3 0 n .whole],.cells [.clo 257 [some 0]],.cells [.clo 259 [some 0]],.row .u8 bs]
def kyX (o : AO KT ElT) (n : Nat) (bs : List (ElT .u8)) : Heap KT ElT := [.cells [.own .u8 4 0 n .whole],.cells [.clo 257 [some 0]],.cells [.clo 259 [some 0]],o,.row .u8 bs]
def bxS (s : El_sub) : AO KT ElT := .cells (enc_sub s)
def bxC (s : El_sub) : AO KT ElT := .cells [.int .i64 s.kind,slO .vt s.params,slO .vt s.results,slO .fld s.fields]
def ky1V (l : List El_sub) (j : Int) (k : KT) (a : List (ElT k)) (i : Int) : List V := [.ptr 0 0,.ptr 1 0,.ptr 2 0,.clo 260 [some 1,some 2],.ptr 3 0,.imm .sub l,.int .i64 l.length,.int .i64 j,.imm k a,.int .i64 a.length,.int .i64 i]
def ky4V (l : List El_sub) (j : Int) (k : KT) (a : List (ElT k)) (i : Int) : List V := [.ptr 0 0,.ptr 1 0,.ptr 2 0,.clo 260 [some 1,some 2],.imm .sub l,.int .i64 l.length,.int .i64 j,.imm k a,.int .i64 a.length,.int .i64 i]
theorem take_succ' {α : Type} {q : List α} {j : Nat} {y : α} (h : q[j]? = some y) : q.take (j + 1) = q.take j ++ [y] := by rw [List.take_add_one,h]; rfl
theorem getD_at {α : Type} {l : List α} {j : Nat} (h : j < l.length) (z : α) : l[j]? = some (l.getD j z) := by simp [h]
theorem flat_le {α : Type} (f : α → List (ElT .u8)) : ∀ (l : List α) (j : Nat) (y : α),l[j]? = some y → ((l.take j).flatMap f).length + (f y).length ≤ (l.flatMap f).length
 | [],_,_,h => by simp at h
 | x :: l,0,y,h => by simp at h; subst h; simp
 | x :: l,j + 1,y,h => by
  have := flat_le f l j y (by simpa using h);simp only [List.take_succ_cons,List.flatMap_cons,List.length_append];omega
theorem c_key (l : List El_sub) (hl : l.length ≤ 1048576) (hg : ∀ s ∈ l,good_sub 1048576 s) (hK : (keyL l).length ≤ 140737488355100) :
    SpecD S 243 [.imm .sub l] [] (.str (keyB l)) [] := by
 refine specE ok sh243 rfl ?_;conv=>whnf
 refine loop_of [.cell 0 0 .u8] [0,1,2,3] (fun vs H => ∃ (j n : Nat) (bs : List (ElT .u8)),j ≤ l.length ∧ n = bs.length ∧ bs = keyL (l.take j) ∧ vs = kyV l j ∧ H = kyH n bs)
  (fun vs _ => match vs with | [_,_,_,_,_,_,.int _ j] => l.length - j.toNat | _ => 0) (by rfl) (by rfl) (by rfl) (by rfl) ⟨0,0,[],Nat.zero_le _,rfl,rfl,rfl,rfl⟩ ?_
 rintro vs H1 ⟨j,n,bs,hj,hn,hb,rfl,rfl⟩;(conv=>whnf);cases hd : decide ((j : Int) < l.length)
 · (conv=>whnf);have := of_decide_eq_false hd;obtain rfl : j = l.length := by omega
   rw [List.take_length] at hb;subst hb;refine ⟨rfl,by omega,?_⟩;(conv=>whnf);refine ⟨⟨rfl,fun y _ => ⟨y,rfl⟩⟩,?_⟩;(conv=>whnf);refine eQ [] ⟨?_,rfl⟩;show (AV.str (bytesS S .u8 ((List.drop 0 (keyL l)).take n)) : V) = _;rw [List.drop_zero,hn,List.take_length];rfl
 · (conv=>whnf);have hjl := of_decide_eq_true hd;have hw : IntKind.i64.wrap ((j : Int) + 1) = ((j + 1 : Nat) : Int) := wrap_i64 (by omega) (by omega);refine ⟨rfl,by omega,by omega,?_⟩;(conv=>whnf);refine ⟨by omega,(by decide : 0 + 6 ≤ 6),?_⟩;rw [show l.getD (Int.toNat (j : Int)) (S.zero .sub) = l.getD j (S.zero .sub) by rw [Int.toNat_natCast]];have hy := getD_at (show j < l.length by omega) (S.zero .sub);have hgy := hg _ (List.mem_of_getElem? hy);have hA := flat_le kS l j _ hy;have hkey : keyL (l.take (j + 1)) = keyL (l.take j) ++ kS (l.getD j (S.zero .sub)) := by rw [take_succ' hy,keyL,List.flatMap_append]; simp [keyL]
   generalize l.getD j (S.zero .sub) = s at hy hgy hA hkey
   change (keyL (l.take j)).length + (kS s).length ≤ (keyL l).length at hA
   rw [← hb] at hA hkey;clear hb;obtain ⟨fi,sa,sk,sp,sr,sf⟩ := s;obtain ⟨⟨a,ha0,hal,hag⟩,hk,⟨p,hp0,hpl,hpg⟩,⟨r,hr0,hrl,hrg⟩,⟨f,hf0,hfl,hfg⟩⟩ := hgy;simp only at ha0 hk hp0 hr0 hf0;subst ha0 hp0 hr0 hf0;have hki := i64_of hk;simp only [kS,Option.getD_some,List.length_append] at hA;simp only [kS,Option.getD_some,← List.append_assoc] at hkey;have Ta := i64_len hal;have Tp := i64_len hpl;have Tr := i64_len hrl;have Tf := i64_len hfl;cases fi
   · have kf := c_kf false n bs hn (by omega);have e0 : bs ++ kF false = bs := by simp [kF]
     have k1 := c_kn a.length n bs Ta.1 Ta.2 hn (by omega);have hn0 := hn;(conv=>whnf);refine cQ [0,3] kf ?_;(conv=>whnf);refine cQ [0,3] k1 ?_;(conv=>whnf);obtain ⟨q0,hq0⟩ : ∃ q : List (ElT .u8),q = bs ++ kF false ++ kN a.length := ⟨_,rfl⟩;rw [← hq0] at hkey;have hq0l : q0.length = bs.length + (kF false).length + (kN (a.length : Int)).length := by rw [hq0]; simp only [List.length_append]
     refine loop_of [] [0,1,2,4,5] (fun vs H => ∃ (i n : Nat) (bs : List (ElT .u8)),i ≤ a.length ∧ n = bs.length ∧ bs = q0 ++ (a.take i).flatMap kN ∧ vs = ky1V l j .int a i ∧ H = kyX (bxS ⟨false,some a,sk,some p,some r,some f⟩) n bs)
      (fun vs _ => match vs with | [_,_,_,_,_,_,_,_,_,_,.int _ j] => a.length - j.toNat | _ => 0) (by rfl) (by rfl) (by rfl) (by rfl) ⟨0,(n + (kN (a.length : Int)).length),(bs ++ kN a.length),Nat.zero_le _,(by simp [hn]),(by rw [hq0]; simp [kF]),rfl,rfl⟩ ?_
     rintro vs H1 ⟨i1,n1,b1,hi1,hn1,hb1,rfl,rfl⟩;(conv=>whnf);cases hd1 : decide ((i1 : Int) < a.length)
     rotate_left
     · (conv=>whnf);have hil := of_decide_eq_true hd1;have hwi : IntKind.i64.wrap ((i1 : Int) + 1) = ((i1 + 1 : Nat) : Int) := wrap_i64 (by omega) (by omega);refine ⟨rfl,by omega,by omega,?_⟩;(conv=>whnf);refine ⟨by omega,(by decide : 0 + 1 ≤ 1),?_⟩;rw [show a.getD (Int.toNat (i1 : Int)) (S.zero .int) = a.getD i1 (S.zero .int) by rw [Int.toNat_natCast]];have hx := getD_at (show i1 < a.length by omega) (S.zero .int);have hgx := hag _ (List.mem_of_getElem? hx);have hle := flat_le kN a i1 _ hx;have hfl2 : (a.take (i1 + 1)).flatMap kN = (a.take i1).flatMap kN ++ kN (a.getD i1 (S.zero .int)) := by rw [take_succ' hx,List.flatMap_append]; simp
       generalize a.getD i1 (S.zero .int) = x at hx hgx hle hfl2;have hbl : b1.length = q0.length + ((a.take i1).flatMap kN).length := by rw [hb1]; simp only [List.length_append]
       have kx := c_kn x n1 b1 (i64_of hgx).1 (i64_of hgx).2 hn1 (by omega);(conv=>whnf);refine cQ [0,4] kx ?_;(conv=>whnf);refine ⟨[0,1,2,3,5],[],relo_of [0,1,2,3,5] (by rfl) (by rfl),?_⟩;refine ⟨⟨i1 + 1,(n1 + (kN x).length),(b1 ++ kN x),by omega,(by simp [hn1]),(by rw [hfl2,hb1,List.append_assoc]),congrArg (ky1V l j .int a) hwi,rfl⟩,?_⟩;show a.length - (IntKind.i64.wrap ((i1 : Int) + 1)).toNat < a.length - (i1 : Int).toNat;rw [hwi]; omega
     have := of_decide_eq_false hd1;obtain rfl : i1 = a.length := by omega
     clear hd1 hi1;rw [List.take_length] at hb1;have hbl1 : b1.length = q0.length + (a.flatMap kN).length := by rw [hb1]; simp only [List.length_append]
     rw [← hb1] at hkey;have k2 := c_kn sk n1 b1 hki.1 hki.2 hn1 (by omega);have k3 := c_kn p.length (n1 + (kN sk).length) (b1 ++ kN sk) Tp.1 Tp.2 (by simp [hn1]) (by have := kN_len sk hki.1 hki.2; omega);(conv=>whnf);refine cQ [0,4] k2 ?_;(conv=>whnf);refine cQ [0,6] k3 ?_;(conv=>whnf);obtain ⟨q1,hq1⟩ : ∃ q : List (ElT .u8),q = b1 ++ kN sk ++ kN p.length := ⟨_,rfl⟩;rw [← hq1] at hkey;have hq1l : q1.length = b1.length + (kN sk).length + (kN (p.length : Int)).length := by rw [hq1]; simp only [List.length_append]
     refine loop_of [] [0,1,2,5,7] (fun vs H => ∃ (i n : Nat) (bs : List (ElT .u8)),i ≤ p.length ∧ n = bs.length ∧ bs = q1 ++ (p.take i).flatMap kV ∧ vs = ky1V l j .vt p i ∧ H = kyX (bxC ⟨false,some a,sk,some p,some r,some f⟩) n bs)
      (fun vs _ => match vs with | [_,_,_,_,_,_,_,_,_,_,.int _ j] => p.length - j.toNat | _ => 0) (by rfl) (by rfl) (by rfl) (by rfl) ⟨0,(n1 + (kN sk).length + (kN (p.length : Int)).length),(b1 ++ kN sk ++ kN p.length),Nat.zero_le _,(by simp [hn1]; omega),(by rw [hq1]; simp),rfl,rfl⟩ ?_
     rintro vs H1 ⟨i2,n2,b2,hi2,hn2,hb2,rfl,rfl⟩;(conv=>whnf);cases hd2 : decide ((i2 : Int) < p.length)
     rotate_left
     · (conv=>whnf);have hil := of_decide_eq_true hd2;have hwi : IntKind.i64.wrap ((i2 : Int) + 1) = ((i2 + 1 : Nat) : Int) := wrap_i64 (by omega) (by omega);refine ⟨rfl,by omega,by omega,?_⟩;(conv=>whnf);refine ⟨by omega,(by decide : 0 + 3 ≤ 3),?_⟩;rw [show p.getD (Int.toNat (i2 : Int)) (S.zero .vt) = p.getD i2 (S.zero .vt) by rw [Int.toNat_natCast]];have hx := getD_at (show i2 < p.length by omega) (S.zero .vt);have hgx := hpg _ (List.mem_of_getElem? hx);have hle := flat_le kV p i2 _ hx;have hfl2 : (p.take (i2 + 1)).flatMap kV = (p.take i2).flatMap kV ++ kV (p.getD i2 (S.zero .vt)) := by rw [take_succ' hx,List.flatMap_append]; simp
       generalize p.getD i2 (S.zero .vt) = x at hx hgx hle hfl2;have hbl : b2.length = q1.length + ((p.take i2).flatMap kV).length := by rw [hb2]; simp only [List.length_append]
       have kx := c_kv x n2 b2 (i64_of hgx.1) (i64_of hgx.2) hn2 (by omega);(conv=>whnf);refine cQ [1,2,0,4] kx ?_;(conv=>whnf);refine ⟨[0,1,2,3,6],[],relo_of [0,1,2,3,6] (by rfl) (by rfl),?_⟩;refine ⟨⟨i2 + 1,(n2 + (kV x).length),(b2 ++ kV x),by omega,(by simp [hn2]),(by rw [hfl2,hb2,List.append_assoc]),congrArg (ky1V l j .vt p) hwi,rfl⟩,?_⟩;show p.length - (IntKind.i64.wrap ((i2 : Int) + 1)).toNat < p.length - (i2 : Int).toNat;rw [hwi]; omega
     have := of_decide_eq_false hd2;obtain rfl : i2 = p.length := by omega
     clear hd2 hi2;rw [List.take_length] at hb2;have hbl2 : b2.length = q1.length + (p.flatMap kV).length := by rw [hb2]; simp only [List.length_append]
     rw [← hb2] at hkey;have k4 := c_kn r.length n2 b2 Tr.1 Tr.2 hn2 (by omega);(conv=>whnf);refine cQ [0,4] k4 ?_;(conv=>whnf);obtain ⟨q2,hq2⟩ : ∃ q : List (ElT .u8),q = b2 ++ kN r.length := ⟨_,rfl⟩;rw [← hq2] at hkey;have hq2l : q2.length = b2.length + (kN (r.length : Int)).length := by rw [hq2]; simp only [List.length_append]
     refine loop_of [] [0,1,2,3,5] (fun vs H => ∃ (i n : Nat) (bs : List (ElT .u8)),i ≤ r.length ∧ n = bs.length ∧ bs = q2 ++ (r.take i).flatMap kV ∧ vs = ky1V l j .vt r i ∧ H = kyX (bxC ⟨false,some a,sk,some p,some r,some f⟩) n bs)
      (fun vs _ => match vs with | [_,_,_,_,_,_,_,_,_,_,.int _ j] => r.length - j.toNat | _ => 0) (by rfl) (by rfl) (by rfl) (by rfl) ⟨0,(n2 + (kN (r.length : Int)).length),(b2 ++ kN r.length),Nat.zero_le _,(by simp [hn2]),(by rw [hq2]; simp),rfl,rfl⟩ ?_
     rintro vs H1 ⟨i3,n3,b3,hi3,hn3,hb3,rfl,rfl⟩;(conv=>whnf);cases hd3 : decide ((i3 : Int) < r.length)
     rotate_left
     · (conv=>whnf);have hil := of_decide_eq_true hd3;have hwi : IntKind.i64.wrap ((i3 : Int) + 1) = ((i3 + 1 : Nat) : Int) := wrap_i64 (by omega) (by omega);refine ⟨rfl,by omega,by omega,?_⟩;(conv=>whnf);refine ⟨by omega,(by decide : 0 + 3 ≤ 3),?_⟩;rw [show r.getD (Int.toNat (i3 : Int)) (S.zero .vt) = r.getD i3 (S.zero .vt) by rw [Int.toNat_natCast]];have hx := getD_at (show i3 < r.length by omega) (S.zero .vt);have hgx := hrg _ (List.mem_of_getElem? hx);have hle := flat_le kV r i3 _ hx;have hfl2 : (r.take (i3 + 1)).flatMap kV = (r.take i3).flatMap kV ++ kV (r.getD i3 (S.zero .vt)) := by rw [take_succ' hx,List.flatMap_append]; simp
       generalize r.getD i3 (S.zero .vt) = x at hx hgx hle hfl2;have hbl : b3.length = q2.length + ((r.take i3).flatMap kV).length := by rw [hb3]; simp only [List.length_append]
       have kx := c_kv x n3 b3 (i64_of hgx.1) (i64_of hgx.2) hn3 (by omega);(conv=>whnf);refine cQ [1,2,0,4] kx ?_;(conv=>whnf);refine ⟨[0,1,2,3,6],[],relo_of [0,1,2,3,6] (by rfl) (by rfl),?_⟩;refine ⟨⟨i3 + 1,(n3 + (kV x).length),(b3 ++ kV x),by omega,(by simp [hn3]),(by rw [hfl2,hb3,List.append_assoc]),congrArg (ky1V l j .vt r) hwi,rfl⟩,?_⟩;show r.length - (IntKind.i64.wrap ((i3 : Int) + 1)).toNat < r.length - (i3 : Int).toNat;rw [hwi]; omega
     have := of_decide_eq_false hd3;obtain rfl : i3 = r.length := by omega
     clear hd3 hi3;rw [List.take_length] at hb3;have hbl3 : b3.length = q2.length + (r.flatMap kV).length := by rw [hb3]; simp only [List.length_append]
     rw [← hb3] at hkey;have k5 := c_kn f.length n3 b3 Tf.1 Tf.2 hn3 (by omega);(conv=>whnf);refine cQ [0,4] k5 ?_;(conv=>whnf);obtain ⟨q3,hq3⟩ : ∃ q : List (ElT .u8),q = b3 ++ kN f.length := ⟨_,rfl⟩;rw [← hq3] at hkey;have hq3l : q3.length = b3.length + (kN (f.length : Int)).length := by rw [hq3]; simp only [List.length_append]
     refine loop_of [] [0,1,2,5] (fun vs H => ∃ (i n : Nat) (bs : List (ElT .u8)),i ≤ f.length ∧ n = bs.length ∧ bs = q3 ++ (f.take i).flatMap kD ∧ vs = ky4V l j .fld f i ∧ H = kyH n bs)
      (fun vs _ => match vs with | [_,_,_,_,_,_,_,_,_,.int _ j] => f.length - j.toNat | _ => 0) (by rfl) (by rfl) (by rfl) (by rfl) ⟨0,(n3 + (kN (f.length : Int)).length),(b3 ++ kN f.length),Nat.zero_le _,(by simp [hn3]),(by rw [hq3]; simp),rfl,rfl⟩ ?_
     rintro vs H1 ⟨i4,n4,b4,hi4,hn4,hb4,rfl,rfl⟩;(conv=>whnf);cases hd4 : decide ((i4 : Int) < f.length)
     rotate_left
     · (conv=>whnf);have hil := of_decide_eq_true hd4;have hwi : IntKind.i64.wrap ((i4 : Int) + 1) = ((i4 + 1 : Nat) : Int) := wrap_i64 (by omega) (by omega);refine ⟨rfl,by omega,by omega,?_⟩;(conv=>whnf);refine ⟨by omega,(by decide : 0 + 4 ≤ 4),?_⟩;rw [show f.getD (Int.toNat (i4 : Int)) (S.zero .fld) = f.getD i4 (S.zero .fld) by rw [Int.toNat_natCast]];have hx := getD_at (show i4 < f.length by omega) (S.zero .fld);have hgx := hfg _ (List.mem_of_getElem? hx);have hle := flat_le kD f i4 _ hx;have hfl2 : (f.take (i4 + 1)).flatMap kD = (f.take i4).flatMap kD ++ kD (f.getD i4 (S.zero .fld)) := by rw [take_succ' hx,List.flatMap_append]; simp
       generalize f.getD i4 (S.zero .fld) = x at hx hgx hle hfl2;have hbl : b4.length = q3.length + ((f.take i4).flatMap kD).length := by rw [hb4]; simp only [List.length_append]
       obtain ⟨xn,xu,xh,xm⟩ := x;cases xm
       · have kx := c_kf false n4 b4 hn4 (by omega);have ky := c_kv ⟨xn,xu,xh⟩ n4 b4 (i64_of hgx.1) (i64_of hgx.2) (by simp [hn4]) (by omega);have eD : kD ⟨xn,xu,xh,false⟩ = kF false ++ kV ⟨xn,xu,xh⟩ := rfl;(conv=>whnf);refine cQ [0,3] kx ?_;(conv=>whnf);refine cQ [1,2,0,3] ky ?_;(conv=>whnf);refine ⟨[0,1,2,5],[],relo_of [0,1,2,5] (by rfl) (by rfl),?_⟩;refine ⟨⟨i4 + 1,(n4 + (kV ⟨xn,xu,xh⟩).length),(b4 ++ kV ⟨xn,xu,xh⟩),by omega,(by simp [hn4]),(by rw [hfl2,hb4,eD]; simp [kF]),congrArg (ky4V l j .fld f) hwi,rfl⟩,?_⟩;show f.length - (IntKind.i64.wrap ((i4 : Int) + 1)).toNat < f.length - (i4 : Int).toNat;rw [hwi]; omega
       · have kx := c_kf true n4 b4 hn4 (by omega);have ky := c_kv ⟨xn,xu,xh⟩ (n4 + 1) (b4 ++ [43]) (i64_of hgx.1) (i64_of hgx.2) (by simp [hn4]) (by omega);have eD : kD ⟨xn,xu,xh,true⟩ = kF true ++ kV ⟨xn,xu,xh⟩ := rfl;(conv=>whnf);refine cQ [0,3] kx ?_;(conv=>whnf);refine cQ [1,2,0,5] ky ?_;(conv=>whnf);refine ⟨[0,1,2,6],[],relo_of [0,1,2,6] (by rfl) (by rfl),?_⟩;refine ⟨⟨i4 + 1,((n4 + 1) + (kV ⟨xn,xu,xh⟩).length),((b4 ++ [43]) ++ kV ⟨xn,xu,xh⟩),by omega,(by simp [hn4]; omega),(by rw [hfl2,hb4,eD]; simp [kF]),congrArg (ky4V l j .fld f) hwi,rfl⟩,?_⟩;show f.length - (IntKind.i64.wrap ((i4 : Int) + 1)).toNat < f.length - (i4 : Int).toNat;rw [hwi]; omega
     have := of_decide_eq_false hd4;obtain rfl : i4 = f.length := by omega
     clear hd4 hi4;rw [List.take_length] at hb4;have hbl4 : b4.length = q3.length + (f.flatMap kD).length := by rw [hb4]; simp only [List.length_append]
     rw [← hb4] at hkey;(conv=>whnf);refine ⟨[0,1,2,3],[],relo_of [0,1,2,3] (by rfl) (by rfl),?_⟩;refine ⟨⟨j + 1,n4,b4,by omega,hn4,hkey.symm,congrArg (kyV l) hw,rfl⟩,?_⟩;show l.length - (IntKind.i64.wrap ((j : Int) + 1)).toNat < l.length - (j : Int).toNat;rw [hw]; omega
   · have kf := c_kf true n bs hn (by omega);have k1 := c_kn a.length (n + 1) (bs ++ [43]) Ta.1 Ta.2 (by simp [hn]) (by omega);(conv=>whnf);refine cQ [0,3] kf ?_;(conv=>whnf);refine cQ [0,5] k1 ?_;(conv=>whnf);obtain ⟨q0,hq0⟩ : ∃ q : List (ElT .u8),q = bs ++ kF true ++ kN a.length := ⟨_,rfl⟩;rw [← hq0] at hkey;have hq0l : q0.length = bs.length + (kF true).length + (kN (a.length : Int)).length := by rw [hq0]; simp only [List.length_append]
     refine loop_of [] [0,1,2,4,6] (fun vs H => ∃ (i n : Nat) (bs : List (ElT .u8)),i ≤ a.length ∧ n = bs.length ∧ bs = q0 ++ (a.take i).flatMap kN ∧ vs = ky1V l j .int a i ∧ H = kyX (bxS ⟨true,some a,sk,some p,some r,some f⟩) n bs)
      (fun vs _ => match vs with | [_,_,_,_,_,_,_,_,_,_,.int _ j] => a.length - j.toNat | _ => 0) (by rfl) (by rfl) (by rfl) (by rfl) ⟨0,(n + 1 + (kN (a.length : Int)).length),(bs ++ [43] ++ kN a.length),Nat.zero_le _,(by simp [hn]; omega),(by rw [hq0]; simp [kF]),rfl,rfl⟩ ?_
     rintro vs H1 ⟨i1,n1,b1,hi1,hn1,hb1,rfl,rfl⟩;(conv=>whnf);cases hd1 : decide ((i1 : Int) < a.length)
     rotate_left
     · (conv=>whnf);have hil := of_decide_eq_true hd1;have hwi : IntKind.i64.wrap ((i1 : Int) + 1) = ((i1 + 1 : Nat) : Int) := wrap_i64 (by omega) (by omega);refine ⟨rfl,by omega,by omega,?_⟩;(conv=>whnf);refine ⟨by omega,(by decide : 0 + 1 ≤ 1),?_⟩;rw [show a.getD (Int.toNat (i1 : Int)) (S.zero .int) = a.getD i1 (S.zero .int) by rw [Int.toNat_natCast]];have hx := getD_at (show i1 < a.length by omega) (S.zero .int);have hgx := hag _ (List.mem_of_getElem? hx);have hle := flat_le kN a i1 _ hx;have hfl2 : (a.take (i1 + 1)).flatMap kN = (a.take i1).flatMap kN ++ kN (a.getD i1 (S.zero .int)) := by rw [take_succ' hx,List.flatMap_append]; simp
       generalize a.getD i1 (S.zero .int) = x at hx hgx hle hfl2;have hbl : b1.length = q0.length + ((a.take i1).flatMap kN).length := by rw [hb1]; simp only [List.length_append]
       have kx := c_kn x n1 b1 (i64_of hgx).1 (i64_of hgx).2 hn1 (by omega);(conv=>whnf);refine cQ [0,4] kx ?_;(conv=>whnf);refine ⟨[0,1,2,3,5],[],relo_of [0,1,2,3,5] (by rfl) (by rfl),?_⟩;refine ⟨⟨i1 + 1,(n1 + (kN x).length),(b1 ++ kN x),by omega,(by simp [hn1]),(by rw [hfl2,hb1,List.append_assoc]),congrArg (ky1V l j .int a) hwi,rfl⟩,?_⟩;show a.length - (IntKind.i64.wrap ((i1 : Int) + 1)).toNat < a.length - (i1 : Int).toNat;rw [hwi]; omega
     have := of_decide_eq_false hd1;obtain rfl : i1 = a.length := by omega
     clear hd1 hi1;rw [List.take_length] at hb1;have hbl1 : b1.length = q0.length + (a.flatMap kN).length := by rw [hb1]; simp only [List.length_append]
     rw [← hb1] at hkey;have k2 := c_kn sk n1 b1 hki.1 hki.2 hn1 (by omega);have k3 := c_kn p.length (n1 + (kN sk).length) (b1 ++ kN sk) Tp.1 Tp.2 (by simp [hn1]) (by have := kN_len sk hki.1 hki.2; omega);(conv=>whnf);refine cQ [0,4] k2 ?_;(conv=>whnf);refine cQ [0,6] k3 ?_;(conv=>whnf);obtain ⟨q1,hq1⟩ : ∃ q : List (ElT .u8),q = b1 ++ kN sk ++ kN p.length := ⟨_,rfl⟩;rw [← hq1] at hkey;have hq1l : q1.length = b1.length + (kN sk).length + (kN (p.length : Int)).length := by rw [hq1]; simp only [List.length_append]
     refine loop_of [] [0,1,2,5,7] (fun vs H => ∃ (i n : Nat) (bs : List (ElT .u8)),i ≤ p.length ∧ n = bs.length ∧ bs = q1 ++ (p.take i).flatMap kV ∧ vs = ky1V l j .vt p i ∧ H = kyX (bxC ⟨true,some a,sk,some p,some r,some f⟩) n bs)
      (fun vs _ => match vs with | [_,_,_,_,_,_,_,_,_,_,.int _ j] => p.length - j.toNat | _ => 0) (by rfl) (by rfl) (by rfl) (by rfl) ⟨0,(n1 + (kN sk).length + (kN (p.length : Int)).length),(b1 ++ kN sk ++ kN p.length),Nat.zero_le _,(by simp [hn1]; omega),(by rw [hq1]; simp),rfl,rfl⟩ ?_
     rintro vs H1 ⟨i2,n2,b2,hi2,hn2,hb2,rfl,rfl⟩;(conv=>whnf);cases hd2 : decide ((i2 : Int) < p.length)
     rotate_left
     · (conv=>whnf);have hil := of_decide_eq_true hd2;have hwi : IntKind.i64.wrap ((i2 : Int) + 1) = ((i2 + 1 : Nat) : Int) := wrap_i64 (by omega) (by omega);refine ⟨rfl,by omega,by omega,?_⟩;(conv=>whnf);refine ⟨by omega,(by decide : 0 + 3 ≤ 3),?_⟩;rw [show p.getD (Int.toNat (i2 : Int)) (S.zero .vt) = p.getD i2 (S.zero .vt) by rw [Int.toNat_natCast]];have hx := getD_at (show i2 < p.length by omega) (S.zero .vt);have hgx := hpg _ (List.mem_of_getElem? hx);have hle := flat_le kV p i2 _ hx;have hfl2 : (p.take (i2 + 1)).flatMap kV = (p.take i2).flatMap kV ++ kV (p.getD i2 (S.zero .vt)) := by rw [take_succ' hx,List.flatMap_append]; simp
       generalize p.getD i2 (S.zero .vt) = x at hx hgx hle hfl2;have hbl : b2.length = q1.length + ((p.take i2).flatMap kV).length := by rw [hb2]; simp only [List.length_append]
       have kx := c_kv x n2 b2 (i64_of hgx.1) (i64_of hgx.2) hn2 (by omega);(conv=>whnf);refine cQ [1,2,0,4] kx ?_;(conv=>whnf);refine ⟨[0,1,2,3,6],[],relo_of [0,1,2,3,6] (by rfl) (by rfl),?_⟩;refine ⟨⟨i2 + 1,(n2 + (kV x).length),(b2 ++ kV x),by omega,(by simp [hn2]),(by rw [hfl2,hb2,List.append_assoc]),congrArg (ky1V l j .vt p) hwi,rfl⟩,?_⟩;show p.length - (IntKind.i64.wrap ((i2 : Int) + 1)).toNat < p.length - (i2 : Int).toNat;rw [hwi]; omega
     have := of_decide_eq_false hd2;obtain rfl : i2 = p.length := by omega
     clear hd2 hi2;rw [List.take_length] at hb2;have hbl2 : b2.length = q1.length + (p.flatMap kV).length := by rw [hb2]; simp only [List.length_append]
     rw [← hb2] at hkey;have k4 := c_kn r.length n2 b2 Tr.1 Tr.2 hn2 (by omega);(conv=>whnf);refine cQ [0,4] k4 ?_;(conv=>whnf);obtain ⟨q2,hq2⟩ : ∃ q : List (ElT .u8),q = b2 ++ kN r.length := ⟨_,rfl⟩;rw [← hq2] at hkey;have hq2l : q2.length = b2.length + (kN (r.length : Int)).length := by rw [hq2]; simp only [List.length_append]
     refine loop_of [] [0,1,2,3,5] (fun vs H => ∃ (i n : Nat) (bs : List (ElT .u8)),i ≤ r.length ∧ n = bs.length ∧ bs = q2 ++ (r.take i).flatMap kV ∧ vs = ky1V l j .vt r i ∧ H = kyX (bxC ⟨true,some a,sk,some p,some r,some f⟩) n bs)
      (fun vs _ => match vs with | [_,_,_,_,_,_,_,_,_,_,.int _ j] => r.length - j.toNat | _ => 0) (by rfl) (by rfl) (by rfl) (by rfl) ⟨0,(n2 + (kN (r.length : Int)).length),(b2 ++ kN r.length),Nat.zero_le _,(by simp [hn2]),(by rw [hq2]; simp),rfl,rfl⟩ ?_
     rintro vs H1 ⟨i3,n3,b3,hi3,hn3,hb3,rfl,rfl⟩;(conv=>whnf);cases hd3 : decide ((i3 : Int) < r.length)
     rotate_left
     · (conv=>whnf);have hil := of_decide_eq_true hd3;have hwi : IntKind.i64.wrap ((i3 : Int) + 1) = ((i3 + 1 : Nat) : Int) := wrap_i64 (by omega) (by omega);refine ⟨rfl,by omega,by omega,?_⟩;(conv=>whnf);refine ⟨by omega,(by decide : 0 + 3 ≤ 3),?_⟩;rw [show r.getD (Int.toNat (i3 : Int)) (S.zero .vt) = r.getD i3 (S.zero .vt) by rw [Int.toNat_natCast]];have hx := getD_at (show i3 < r.length by omega) (S.zero .vt);have hgx := hrg _ (List.mem_of_getElem? hx);have hle := flat_le kV r i3 _ hx;have hfl2 : (r.take (i3 + 1)).flatMap kV = (r.take i3).flatMap kV ++ kV (r.getD i3 (S.zero .vt)) := by rw [take_succ' hx,List.flatMap_append]; simp
       generalize r.getD i3 (S.zero .vt) = x at hx hgx hle hfl2;have hbl : b3.length = q2.length + ((r.take i3).flatMap kV).length := by rw [hb3]; simp only [List.length_append]
       have kx := c_kv x n3 b3 (i64_of hgx.1) (i64_of hgx.2) hn3 (by omega);(conv=>whnf);refine cQ [1,2,0,4] kx ?_;(conv=>whnf);refine ⟨[0,1,2,3,6],[],relo_of [0,1,2,3,6] (by rfl) (by rfl),?_⟩;refine ⟨⟨i3 + 1,(n3 + (kV x).length),(b3 ++ kV x),by omega,(by simp [hn3]),(by rw [hfl2,hb3,List.append_assoc]),congrArg (ky1V l j .vt r) hwi,rfl⟩,?_⟩;show r.length - (IntKind.i64.wrap ((i3 : Int) + 1)).toNat < r.length - (i3 : Int).toNat;rw [hwi]; omega
     have := of_decide_eq_false hd3;obtain rfl : i3 = r.length := by omega
     clear hd3 hi3;rw [List.take_length] at hb3;have hbl3 : b3.length = q2.length + (r.flatMap kV).length := by rw [hb3]; simp only [List.length_append]
     rw [← hb3] at hkey;have k5 := c_kn f.length n3 b3 Tf.1 Tf.2 hn3 (by omega);(conv=>whnf);refine cQ [0,4] k5 ?_;(conv=>whnf);obtain ⟨q3,hq3⟩ : ∃ q : List (ElT .u8),q = b3 ++ kN f.length := ⟨_,rfl⟩;rw [← hq3] at hkey;have hq3l : q3.length = b3.length + (kN (f.length : Int)).length := by rw [hq3]; simp only [List.length_append]
     refine loop_of [] [0,1,2,5] (fun vs H => ∃ (i n : Nat) (bs : List (ElT .u8)),i ≤ f.length ∧ n = bs.length ∧ bs = q3 ++ (f.take i).flatMap kD ∧ vs = ky4V l j .fld f i ∧ H = kyH n bs)
      (fun vs _ => match vs with | [_,_,_,_,_,_,_,_,_,.int _ j] => f.length - j.toNat | _ => 0) (by rfl) (by rfl) (by rfl) (by rfl) ⟨0,(n3 + (kN (f.length : Int)).length),(b3 ++ kN f.length),Nat.zero_le _,(by simp [hn3]),(by rw [hq3]; simp),rfl,rfl⟩ ?_
     rintro vs H1 ⟨i4,n4,b4,hi4,hn4,hb4,rfl,rfl⟩;(conv=>whnf);cases hd4 : decide ((i4 : Int) < f.length)
     rotate_left
     · (conv=>whnf);have hil := of_decide_eq_true hd4;have hwi : IntKind.i64.wrap ((i4 : Int) + 1) = ((i4 + 1 : Nat) : Int) := wrap_i64 (by omega) (by omega);refine ⟨rfl,by omega,by omega,?_⟩;(conv=>whnf);refine ⟨by omega,(by decide : 0 + 4 ≤ 4),?_⟩;rw [show f.getD (Int.toNat (i4 : Int)) (S.zero .fld) = f.getD i4 (S.zero .fld) by rw [Int.toNat_natCast]];have hx := getD_at (show i4 < f.length by omega) (S.zero .fld);have hgx := hfg _ (List.mem_of_getElem? hx);have hle := flat_le kD f i4 _ hx;have hfl2 : (f.take (i4 + 1)).flatMap kD = (f.take i4).flatMap kD ++ kD (f.getD i4 (S.zero .fld)) := by rw [take_succ' hx,List.flatMap_append]; simp
       generalize f.getD i4 (S.zero .fld) = x at hx hgx hle hfl2;have hbl : b4.length = q3.length + ((f.take i4).flatMap kD).length := by rw [hb4]; simp only [List.length_append]
       obtain ⟨xn,xu,xh,xm⟩ := x;cases xm
       · have kx := c_kf false n4 b4 hn4 (by omega);have ky := c_kv ⟨xn,xu,xh⟩ n4 b4 (i64_of hgx.1) (i64_of hgx.2) (by simp [hn4]) (by omega);have eD : kD ⟨xn,xu,xh,false⟩ = kF false ++ kV ⟨xn,xu,xh⟩ := rfl;(conv=>whnf);refine cQ [0,3] kx ?_;(conv=>whnf);refine cQ [1,2,0,3] ky ?_;(conv=>whnf);refine ⟨[0,1,2,5],[],relo_of [0,1,2,5] (by rfl) (by rfl),?_⟩;refine ⟨⟨i4 + 1,(n4 + (kV ⟨xn,xu,xh⟩).length),(b4 ++ kV ⟨xn,xu,xh⟩),by omega,(by simp [hn4]),(by rw [hfl2,hb4,eD]; simp [kF]),congrArg (ky4V l j .fld f) hwi,rfl⟩,?_⟩;show f.length - (IntKind.i64.wrap ((i4 : Int) + 1)).toNat < f.length - (i4 : Int).toNat;rw [hwi]; omega
       · have kx := c_kf true n4 b4 hn4 (by omega);have ky := c_kv ⟨xn,xu,xh⟩ (n4 + 1) (b4 ++ [43]) (i64_of hgx.1) (i64_of hgx.2) (by simp [hn4]) (by omega);have eD : kD ⟨xn,xu,xh,true⟩ = kF true ++ kV ⟨xn,xu,xh⟩ := rfl;(conv=>whnf);refine cQ [0,3] kx ?_;(conv=>whnf);refine cQ [1,2,0,5] ky ?_;(conv=>whnf);refine ⟨[0,1,2,6],[],relo_of [0,1,2,6] (by rfl) (by rfl),?_⟩;refine ⟨⟨i4 + 1,((n4 + 1) + (kV ⟨xn,xu,xh⟩).length),((b4 ++ [43]) ++ kV ⟨xn,xu,xh⟩),by omega,(by simp [hn4]; omega),(by rw [hfl2,hb4,eD]; simp [kF]),congrArg (ky4V l j .fld f) hwi,rfl⟩,?_⟩;show f.length - (IntKind.i64.wrap ((i4 : Int) + 1)).toNat < f.length - (i4 : Int).toNat;rw [hwi]; omega
     have := of_decide_eq_false hd4;obtain rfl : i4 = f.length := by omega
     clear hd4 hi4;rw [List.take_length] at hb4;have hbl4 : b4.length = q3.length + (f.flatMap kD).length := by rw [hb4]; simp only [List.length_append]
     rw [← hb4] at hkey;(conv=>whnf);refine ⟨[0,1,2,3],[],relo_of [0,1,2,3] (by rfl) (by rfl),?_⟩;refine ⟨⟨j + 1,n4,b4,by omega,hn4,hkey.symm,congrArg (kyV l) hw,rfl⟩,?_⟩;show l.length - (IntKind.i64.wrap ((j : Int) + 1)).toNat < l.length - (j : Int).toNat;rw [hw]; omega
end Sh
end Go.Proofs.YtomdfaelgcefdaaGreatDoor
namespace Go.Proofs.YtomdfaelgcefdaaGreatDoor
open Go
namespace Sh
def turnR (xs : List Int) (h : Int) : Int := if h < 0 then h else if h < xs.length then xs.getD h.toNat 0 else IntKind.i64.wrap (-100 - IntKind.i64.wrap (h - xs.length))
def mapV (xs : List Int) (v : El_vt) : El_vt := if v.num = 5 then ⟨v.num,v.null,turnR xs v.heap⟩ else ⟨v.num,false,0⟩
def idC (k n : Nat) : AO KT ElT := .cells [.own .int k 0 n .whole]
theorem c_roll1 (h : Int) (n : Nat) (xs : List Int) (hn : n = xs.length) :
    SpecD S 255 [.int .i64 h,.ptr 0 0] [idC 1 n,.row .int xs] (.int .i64 (turnR xs h)) [idC 1 n,.row .int xs] := by
 subst hn;unfold turnR;refine specE ok sh255 rfl ?_;(conv=>whnf);cases hd : decide (h < 0)
 · (conv=>whnf);have hh := of_decide_eq_false hd;rw [if_neg hh];cases he : decide (h < (xs.length : Int))
   · (conv=>whnf);have hi := of_decide_eq_false he;rw [if_neg hi];refine eQ [0,1] ⟨?_,rfl⟩;rfl
   · (conv=>whnf);have hi := of_decide_eq_true he;rw [if_pos hi];refine ⟨rfl,by omega,hi,?_⟩;(conv=>whnf);refine ⟨rfl,by omega,(by decide : 0 + 1 ≤ 1),?_⟩;(conv=>whnf);refine eQ [0,1] ⟨?_,rfl⟩;show (AV.int .i64 (xs.getD (0 + h.toNat) 0) : V) = _;rw [Nat.zero_add]
 · (conv=>whnf);have hh := of_decide_eq_true hd;rw [if_pos hh];exact eQ [0,1] (by exact ⟨rfl,rfl⟩)
theorem c_rolled (n : Nat) (xs : List Int) :
    SpecD S 241 [.own .int 0 0 n .whole] [.row .int xs] (.clo 255 [some 1]) [.row .int xs,idC 0 n] := by
 refine specE ok sh241 rfl ?_;(conv=>whnf);exact eQ [0,1] (by exact ⟨rfl,rfl⟩)
theorem c_map1 (v : El_vt) (n : Nat) (xs : List Int) (hn : n = xs.length) :
    SpecD S 256 [.agg (enc_vt v),.ptr 0 0] [.cells [.clo 255 [some 1]],idC 2 n,.row .int xs] (.agg (enc_vt (mapV xs v))) [.cells [.clo 255 [some 1]],idC 2 n,.row .int xs] := by
 obtain ⟨a,b,c⟩ := v;have hc := c_roll1 c n xs hn;unfold mapV;generalize turnR xs c = y at hc ⊢;refine specE ok sh256 rfl ?_;(conv=>whnf);cases hd : (a == 5)
 · simp only [bne,hd];(conv=>whnf);rw [if_neg (by simpa using hd)];exact eQ [0,1,2] (by exact ⟨rfl,rfl⟩)
 · simp only [bne,hd];(conv=>whnf);rw [if_pos (by simpa using hd)];refine cQ [1,2] hc ?_;(conv=>whnf);exact eQ [0,1,2] (by exact ⟨rfl,rfl⟩)
end Sh
end Go.Proofs.YtomdfaelgcefdaaGreatDoor
namespace Go.Proofs.YtomdfaelgcefdaaGreatDoor
open Go
namespace Sh
def mapF (xs : List Int) (f : El_fld) : El_fld := ⟨(mapV xs ⟨f.num,f.null,f.heap⟩).num,(mapV xs ⟨f.num,f.null,f.heap⟩).null,(mapV xs ⟨f.num,f.null,f.heap⟩).heap,f.mu⟩
def mapS (xs : List Int) (s : El_sub) : El_sub := ⟨s.final,some ((s.supers.getD []).map (turnR xs)),s.kind,some ((s.params.getD []).map (mapV xs)),some ((s.results.getD []).map (mapV xs)),some ((s.fields.getD []).map (mapF xs))⟩
def outC (fi : Bool) (a : V) (k : Int) (p r f : V) : AO KT ElT := .cells [.bool fi,a,.int .i64 k,p,r,f]
def resC : AO KT ElT := .cells [.bool false,.nils,.int .i64 0,.nils,.nils,.nils]
theorem drop_take' {α : Type} {l : List α} {n : Nat} (h : l.length = n) : (l.drop 0).take n = l := by rw [List.drop_zero,← h,List.take_length]
theorem map_take {α β : Type} (f : α → β) {q : List α} {j : Nat} {y : α} (h : q[j]? = some y) : (q.take (j + 1)).map f = (q.take j).map f ++ [f y] := by rw [take_succ' h]; simp
theorem fits_of {k : KT} {n : Nat} (hn : n ≤ 1048576) (hb : S.bytes k ≤ 1000) : fits S k n := by
 refine ⟨by unfold maxLen; omega,?_⟩;have : n * S.bytes k ≤ 1048576 * 1000 := Nat.mul_le_mul hn hb;omega
def mapH (n : Nat) (xs : List Int) (s : El_sub) (os : List (AO KT ElT)) : Heap KT ElT := [idC 1 n,.row .int xs] ++ ([.cells (enc_sub s),.cells [.clo 255 [some 0]],resC] ++ os)
def mapV1 (a : List Int) (i : Int) : List V := [.ptr 2 0,.ptr 3 0,.ptr 4 0,.clo 256 [some 3],.ptr 5 0,.imm .int a,.int .i64 a.length,.int .i64 i]
def mapV2 (a : List El_vt) (i : Int) : List V := [.ptr 2 0,.ptr 4 0,.clo 256 [some 3],.ptr 5 0,.imm .vt a,.int .i64 a.length,.int .i64 i]
def mapV4 (a : List El_fld) (i : Int) : List V := [.ptr 4 0,.clo 256 [some 3],.ptr 5 0,.imm .fld a,.int .i64 a.length,.int .i64 i]
theorem c_map (n : Nat) (xs : List Int) (hn : n = xs.length) (s : El_sub) (hs : good_sub 1048576 s) :
    SpecD S 242 [.agg (enc_sub s),.clo 255 [some 0]] [idC 1 n,.row .int xs] (.agg (enc_sub (mapS xs s))) [idC 1 n,.row .int xs] := by
 obtain ⟨fi,sa,sk,sp,sr,sf⟩ := s;obtain ⟨⟨a,ha0,hal,hag⟩,hk,⟨p,hp0,hpl,hpg⟩,⟨r,hr0,hrl,hrg⟩,⟨f,hf0,hfl,hfg⟩⟩ := hs;simp only at ha0 hk hp0 hr0 hf0;subst ha0 hp0 hr0 hf0;refine specE ok sh242 rfl ?_;conv=>whnf
 refine loop_of [.cell 5 1 .int] [0,1,2,3,4,5,6] (fun vs H => ∃ i : Nat,i ≤ a.length ∧ vs = mapV1 a i ∧ H = mapH n xs ⟨fi,some a,sk,some p,some r,some f⟩ [outC fi (.own .int 6 0 i .whole) sk (.nils) (.nils) (.nils),.row .int ((a.take i).map (turnR xs))])
  (fun vs _ => match vs with | [_,_,_,_,_,_,_,.int _ j] => a.length - j.toNat | _ => 0) (by rfl) (by rfl) (by rfl) (by rfl) ⟨0,Nat.zero_le _,rfl,rfl⟩ ?_
 rintro vs H1 ⟨i,hi,rfl,rfl⟩;(conv=>whnf);cases hd : decide ((i : Int) < a.length)
 rotate_left
 · (conv=>whnf);have hil := of_decide_eq_true hd;have hwi : IntKind.i64.wrap ((i : Int) + 1) = ((i + 1 : Nat) : Int) := wrap_i64 (by omega) (by omega);refine ⟨rfl,by omega,by omega,?_⟩;(conv=>whnf);refine ⟨by omega,(by decide : 0 + 1 ≤ 1),?_⟩;rw [show a.getD (Int.toNat (i : Int)) (S.zero .int) = a.getD i (S.zero .int) by rw [Int.toNat_natCast]];have hx := getD_at (show i < a.length by omega) (S.zero .int);have hgx := hag _ (List.mem_of_getElem? hx);have ht : (a.take (i + 1)).map (turnR xs) = (a.take i).map (turnR xs) ++ [turnR xs (a.getD i (S.zero .int))] := map_take _ hx;have htl : ((a.take i).map (turnR xs)).length = i := by simp; omega
   generalize a.getD i (S.zero .int) = x at hx hgx ht;have hc := c_roll1 x n xs hn;generalize (a.take i).map (turnR xs) = xs at ht htl;(conv=>whnf);refine cQ [0,1] hc ?_;(conv=>whnf);refine tQ ?_;(conv=>whnf);refine tQ ?_;(conv=>whnf);refine ⟨rfl,by simp,?_⟩;(conv=>whnf);refine ⟨rfl,by show 0 + i ≤ xs.length; omega,fits_of (by show i + 1 ≤ _; omega) (by decide),rfl,?_⟩;(conv=>whnf);refine ⟨[0,1,2,3,4,5,8],[],relo_of [0,1,2,3,4,5,8] (by rfl) (by rfl),?_⟩;refine ⟨⟨i + 1,by omega,congrArg (mapV1 a) hwi,?_⟩,?_⟩
   · rw [ht];have e : xs.take i = xs := by rw [← htl,List.take_length]
     conv => rhs; rw [← e]
     rfl
   · show a.length - (IntKind.i64.wrap ((i : Int) + 1)).toNat < a.length - (i : Int).toNat;rw [hwi]; omega
 have := of_decide_eq_false hd;obtain rfl : i = a.length := by omega
 clear hd hi;rw [List.take_length];conv=>whnf
 refine loop_of [.cell 5 3 .vt] [0,1,2,3,4,5,6,7] (fun vs H => ∃ i : Nat,i ≤ p.length ∧ vs = mapV2 p i ∧ H = mapH n xs ⟨fi,some a,sk,some p,some r,some f⟩ [outC fi (.own .int 6 0 a.length .whole) sk (.own .vt 7 0 i .whole) (.nils) (.nils),.row .int (a.map (turnR xs)),.row .vt ((p.take i).map (mapV xs))])
  (fun vs _ => match vs with | [_,_,_,_,_,_,.int _ j] => p.length - j.toNat | _ => 0) (by rfl) (by rfl) (by rfl) (by rfl) ⟨0,Nat.zero_le _,rfl,rfl⟩ ?_
 rintro vs H1 ⟨i,hi,rfl,rfl⟩;(conv=>whnf);cases hd : decide ((i : Int) < p.length)
 rotate_left
 · (conv=>whnf);have hil := of_decide_eq_true hd;have hwi : IntKind.i64.wrap ((i : Int) + 1) = ((i + 1 : Nat) : Int) := wrap_i64 (by omega) (by omega);refine ⟨rfl,by omega,by omega,?_⟩;(conv=>whnf);refine ⟨by omega,(by decide : 0 + 3 ≤ 3),?_⟩;rw [show p.getD (Int.toNat (i : Int)) (S.zero .vt) = p.getD i (S.zero .vt) by rw [Int.toNat_natCast]];have hx := getD_at (show i < p.length by omega) (S.zero .vt);have hgx := hpg _ (List.mem_of_getElem? hx);have ht : (p.take (i + 1)).map (mapV xs) = (p.take i).map (mapV xs) ++ [mapV xs (p.getD i (S.zero .vt))] := map_take _ hx;have htl : ((p.take i).map (mapV xs)).length = i := by simp; omega
   generalize p.getD i (S.zero .vt) = x at hx hgx ht;have hc := c_map1 x n xs hn;generalize (p.take i).map (mapV xs) = xs at ht htl;(conv=>whnf);refine cQ [3,0,1] hc ?_;(conv=>whnf);refine tQ ?_;(conv=>whnf);refine tQ ?_;(conv=>whnf);refine ⟨rfl,by simp,?_⟩;(conv=>whnf);refine ⟨rfl,by show 0 + i ≤ xs.length; omega,fits_of (by show i + 1 ≤ _; omega) (by decide),rfl,?_⟩;(conv=>whnf);refine ⟨[0,1,2,3,4,5,6,10],[],relo_of [0,1,2,3,4,5,6,10] (by rfl) (by rfl),?_⟩;refine ⟨⟨i + 1,by omega,congrArg (mapV2 p) hwi,?_⟩,?_⟩
   · rw [ht];have e : xs.take i = xs := by rw [← htl,List.take_length]
     conv => rhs; rw [← e]
     rfl
   · show p.length - (IntKind.i64.wrap ((i : Int) + 1)).toNat < p.length - (i : Int).toNat;rw [hwi]; omega
 have := of_decide_eq_false hd;obtain rfl : i = p.length := by omega
 clear hd hi;rw [List.take_length];conv=>whnf
 refine loop_of [.cell 5 4 .vt] [0,1,2,3,4,5,6,7,8] (fun vs H => ∃ i : Nat,i ≤ r.length ∧ vs = mapV2 r i ∧ H = mapH n xs ⟨fi,some a,sk,some p,some r,some f⟩ [outC fi (.own .int 6 0 a.length .whole) sk (.own .vt 7 0 p.length .whole) (.own .vt 8 0 i .whole) (.nils),.row .int (a.map (turnR xs)),.row .vt (p.map (mapV xs)),.row .vt ((r.take i).map (mapV xs))])
  (fun vs _ => match vs with | [_,_,_,_,_,_,.int _ j] => r.length - j.toNat | _ => 0) (by rfl) (by rfl) (by rfl) (by rfl) ⟨0,Nat.zero_le _,rfl,rfl⟩ ?_
 rintro vs H1 ⟨i,hi,rfl,rfl⟩;(conv=>whnf);cases hd : decide ((i : Int) < r.length)
 rotate_left
 · (conv=>whnf);have hil := of_decide_eq_true hd;have hwi : IntKind.i64.wrap ((i : Int) + 1) = ((i + 1 : Nat) : Int) := wrap_i64 (by omega) (by omega);refine ⟨rfl,by omega,by omega,?_⟩;(conv=>whnf);refine ⟨by omega,(by decide : 0 + 3 ≤ 3),?_⟩;rw [show r.getD (Int.toNat (i : Int)) (S.zero .vt) = r.getD i (S.zero .vt) by rw [Int.toNat_natCast]];have hx := getD_at (show i < r.length by omega) (S.zero .vt);have hgx := hrg _ (List.mem_of_getElem? hx);have ht : (r.take (i + 1)).map (mapV xs) = (r.take i).map (mapV xs) ++ [mapV xs (r.getD i (S.zero .vt))] := map_take _ hx;have htl : ((r.take i).map (mapV xs)).length = i := by simp; omega
   generalize r.getD i (S.zero .vt) = x at hx hgx ht;have hc := c_map1 x n xs hn;generalize (r.take i).map (mapV xs) = xs at ht htl;(conv=>whnf);refine cQ [3,0,1] hc ?_;(conv=>whnf);refine tQ ?_;(conv=>whnf);refine tQ ?_;(conv=>whnf);refine ⟨rfl,by simp,?_⟩;(conv=>whnf);refine ⟨rfl,by show 0 + i ≤ xs.length; omega,fits_of (by show i + 1 ≤ _; omega) (by decide),rfl,?_⟩;(conv=>whnf);refine ⟨[0,1,2,3,4,5,6,7,11],[],relo_of [0,1,2,3,4,5,6,7,11] (by rfl) (by rfl),?_⟩;refine ⟨⟨i + 1,by omega,congrArg (mapV2 r) hwi,?_⟩,?_⟩
   · rw [ht];have e : xs.take i = xs := by rw [← htl,List.take_length]
     conv => rhs; rw [← e]
     rfl
   · show r.length - (IntKind.i64.wrap ((i : Int) + 1)).toNat < r.length - (i : Int).toNat;rw [hwi]; omega
 have := of_decide_eq_false hd;obtain rfl : i = r.length := by omega
 clear hd hi;rw [List.take_length];conv=>whnf
 refine loop_of [.cell 5 5 .fld] [0,1,2,3,4,5,6,7,8,9] (fun vs H => ∃ i : Nat,i ≤ f.length ∧ vs = mapV4 f i ∧ H = mapH n xs ⟨fi,some a,sk,some p,some r,some f⟩ [outC fi (.own .int 6 0 a.length .whole) sk (.own .vt 7 0 p.length .whole) (.own .vt 8 0 r.length .whole) (.own .fld 9 0 i .whole),.row .int (a.map (turnR xs)),.row .vt (p.map (mapV xs)),.row .vt (r.map (mapV xs)),.row .fld ((f.take i).map (mapF xs))])
  (fun vs _ => match vs with | [_,_,_,_,_,.int _ j] => f.length - j.toNat | _ => 0) (by rfl) (by rfl) (by rfl) (by rfl) ⟨0,Nat.zero_le _,rfl,rfl⟩ ?_
 rintro vs H1 ⟨i,hi,rfl,rfl⟩;(conv=>whnf);cases hd : decide ((i : Int) < f.length)
 rotate_left
 · (conv=>whnf);have hil := of_decide_eq_true hd;have hwi : IntKind.i64.wrap ((i : Int) + 1) = ((i + 1 : Nat) : Int) := wrap_i64 (by omega) (by omega);refine ⟨rfl,by omega,by omega,?_⟩;(conv=>whnf);refine ⟨by omega,(by decide : 0 + 4 ≤ 4),?_⟩;rw [show f.getD (Int.toNat (i : Int)) (S.zero .fld) = f.getD i (S.zero .fld) by rw [Int.toNat_natCast]];have hx := getD_at (show i < f.length by omega) (S.zero .fld);have hgx := hfg _ (List.mem_of_getElem? hx);have ht : (f.take (i + 1)).map (mapF xs) = (f.take i).map (mapF xs) ++ [mapF xs (f.getD i (S.zero .fld))] := map_take _ hx;have htl : ((f.take i).map (mapF xs)).length = i := by simp; omega
   generalize f.getD i (S.zero .fld) = x at hx hgx ht;obtain ⟨xn,xu,xh,xm⟩ := x;have hc := c_map1 ⟨xn,xu,xh⟩ n xs hn;generalize (f.take i).map (mapF xs) = xs at ht htl;(conv=>whnf);refine cQ [3,0,1] hc ?_;(conv=>whnf);refine tQ ?_;(conv=>whnf);refine tQ ?_;(conv=>whnf);refine ⟨rfl,by simp,?_⟩;(conv=>whnf);refine ⟨rfl,by show 0 + i ≤ xs.length; omega,fits_of (by show i + 1 ≤ _; omega) (by decide),rfl,?_⟩;(conv=>whnf);refine ⟨[0,1,2,3,4,5,6,7,8,12],[],relo_of [0,1,2,3,4,5,6,7,8,12] (by rfl) (by rfl),?_⟩;refine ⟨⟨i + 1,by omega,congrArg (mapV4 f) hwi,?_⟩,?_⟩
   · rw [ht];have e : xs.take i = xs := by rw [← htl,List.take_length]
     conv => rhs; rw [← e]
     rfl
   · show f.length - (IntKind.i64.wrap ((i : Int) + 1)).toNat < f.length - (i : Int).toNat;rw [hwi]; omega
 have := of_decide_eq_false hd;obtain rfl : i = f.length := by omega
 clear hd hi;rw [List.take_length];(conv=>whnf);refine endL_of [0,1] [6,7,8,9] (by rfl) (by rfl) (by rfl) ⟨⟨trivial,trivial⟩,trivial,trivial⟩ ⟨trivial,⟨rfl,by simp⟩,trivial,⟨rfl,by simp⟩,⟨rfl,by simp⟩,⟨rfl,by simp⟩,trivial⟩ ⟨?_,rfl⟩;show (AV.agg [.bool fi,.imm .int (((a.map (turnR xs)).drop 0).take a.length),.int .i64 sk,.imm .vt (((p.map (mapV xs)).drop 0).take p.length),.imm .vt (((r.map (mapV xs)).drop 0).take r.length),.imm .fld (((f.map (mapF xs)).drop 0).take f.length)] : V) = _;rw [drop_take' (by simp),drop_take' (by simp),drop_take' (by simp),drop_take' (by simp)];rfl
end Sh
end Go.Proofs.YtomdfaelgcefdaaGreatDoor
namespace Go.Proofs.YtomdfaelgcefdaaGreatDoor
open Go
namespace Sh
def okI (e h : Int) : Bool := decide (h < e) && decide (-12 ≤ h)
def okVt (e : Int) (v : El_vt) : Bool := if v.num = 5 then okI e v.heap else true
def okFd (e : Int) (f : El_fld) : Bool := okVt e ⟨f.num,f.null,f.heap⟩
def okSub (e : Int) (s : El_sub) (z : Bool) : Bool := (s.fields.getD []).all (okFd e) && ((s.results.getD []).all (okVt e) && ((s.params.getD []).all (okVt e) && ((s.supers.getD []).all (okI e) && z)))
theorem c_clo1 (h e : Int) (z : Bool) :
    SpecD S 207 [.int .i64 h,.ptr 0 0,.ptr 1 0] [.cells [.bool z],.cells [.int .i64 e]] (.int .i64 h) [.cells [.bool (okI e h && z)],.cells [.int .i64 e]] := by
 unfold okI;cases z
 · refine specE ok sh207 rfl ?_;(conv=>whnf);refine eQ [0,1] ⟨rfl,?_⟩;rw [Bool.and_false];rfl
 · refine specE ok sh207 rfl ?_;(conv=>whnf);cases h1 : decide (h < e)
   · (conv=>whnf);exact eQ [0,1] (by exact ⟨rfl,rfl⟩)
   · (conv=>whnf);refine eQ [0,1] ⟨rfl,?_⟩;rw [Bool.true_and,Bool.and_true];rfl
theorem c_trn1 (v : El_vt) (e : Int) (z : Bool) :
    SpecD S 206 [.agg (enc_vt v),.ptr 0 0] [.cells [.clo 207 [some 1,some 2]],.cells [.bool z],.cells [.int .i64 e]] (.agg (enc_vt v)) [.cells [.clo 207 [some 1,some 2]],.cells [.bool (okVt e v && z)],.cells [.int .i64 e]] := by
 obtain ⟨a,b,c⟩ := v;have hc := c_clo1 c e z;unfold okVt;generalize okI e c = y at hc ⊢;refine specE ok sh206 rfl ?_;(conv=>whnf);cases hd : (a == 5)
 · simp only [];(conv=>whnf);rw [if_neg (by simpa using hd)];exact eQ [0,1,2] (by exact ⟨rfl,rfl⟩)
 · simp only [];(conv=>whnf);rw [if_pos (by simpa using hd)];refine cQ [1,2] hc ?_;(conv=>whnf);exact eQ [0,1,2] (by exact ⟨rfl,rfl⟩)
theorem c_at1 (h : Int) : SpecD S 183 [.int .i64 h] [] (.int .i64 h) [] := by
 refine specE ok sh183 rfl ?_;(conv=>whnf);exact eQ [] (by exact ⟨rfl,rfl⟩)
theorem c_trn2 (v : El_vt) :
    SpecD S 206 [.agg (enc_vt v),.ptr 0 0] [.cells [.fn 183]] (.agg (enc_vt v)) [.cells [.fn 183]] := by
 obtain ⟨a,b,c⟩ := v;have hc := c_at1 c;refine specE ok sh206 rfl ?_;(conv=>whnf);cases hd : (a == 5)
 · simp only [];(conv=>whnf);exact eQ [0] (by exact ⟨rfl,rfl⟩)
 · simp only [];(conv=>whnf);refine cQ [] hc ?_;(conv=>whnf);exact eQ [0] (by exact ⟨rfl,rfl⟩)
end Sh
end Go.Proofs.YtomdfaelgcefdaaGreatDoor
