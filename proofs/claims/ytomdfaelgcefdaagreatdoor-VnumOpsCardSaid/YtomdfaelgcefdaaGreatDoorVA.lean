/- The n-th word of a text. -/
import Derived.Test.YtomdfaelgcefdaaGreatDoorShadeA
import Derived.Test.YtomdfaelgcefdaaGreatDoorSh21
import Derived.IntWalk
import Derived.Laws.RangeAny
namespace Go.Proofs.YtomdfaelgcefdaaGreatDoor
open Go
namespace Sh

theorem wrap_i64 {n : Int} (h0 : -9223372036854775808 ≤ n) (h1 : n ≤ 9223372036854775807) : IntKind.i64.wrap n = n := IntWalk.i64_in _ ⟨h0, h1⟩

/-- A call of a contract that tells all but for some unknown. -/
theorem callE_of {ι : Type} {f : Nat} {vs : List V} {H : Heap KT ElT} {k : V → Heap KT ElT → Prop} (ids : List Nat) {P : ι → Prop} {r : ι → V} {Hf : ι → Heap KT ElT}
    (h : Spec S f (vs.map (loc2 H ids [])) (locH H ids []) fun v H' => ∃ x, P x ∧ v = r x ∧ H' = Hf x) (hn : natsB H.length ids = true) (ht : vs.all AV.ntup = true)
    (hk : ∀ x, P x → k (glob H.length ids (r x)) (globH H ids (Hf x))) : CallP S f vs H k :=
  ⟨⟨ids, [], _, (natsB_iff hn).1, (natsB_iff hn).2, ht, okT_nil _ _ _, okH_nil _ _ _, h, fun v H' hr => ⟨.inl rfl, by
    obtain ⟨x, hp, h1, h2⟩ := hr
    rw [h1, h2]; exact hk x hp⟩⟩⟩

theorem width_pos (s : ByteArray) (p : Nat) (h : p < s.size) : 1 ≤ (Utf8.decode s p).2 := by
  by_cases ha : (s[p]'h).toNat < 128
  · rw [decode_ascii s p h ha]; exact Nat.le_refl _
  · exact (decode_high s p h (by omega)).2

set_option maxRecDepth 100000 in
theorem c_nth (s : ByteArray) (hs : s.size ≤ 1000) (n : Int) : Spec S 160 [.str s, .int .i64 n] [] fun v H => ∃ x : ByteArray, x.size ≤ s.size ∧ v = .str x ∧ H = [] := by
  refine specE ok sh160 rfl ?_
  conv => whnf
  refine loop_of [] [0] (fun vs H => ∃ (p fr : Nat) (m : Int), fr ≤ p ∧ fr ≤ s.size ∧ vs = [.str s, .int .i64 m, .int .i64 fr, .ptr 0 0] ∧ H = [.siter s p])
    (fun _ H => match H with | [.siter s p] => s.size - p | _ => 0) (by rfl) (by rfl) (by rfl) (by rfl) ⟨0, 0, n, Nat.zero_le _, Nat.zero_le _, rfl, rfl⟩ ?_
  rintro vs H1 ⟨p, fr, m, hfr, hfs, rfl, rfl⟩
  have hw1 : p < s.size → 1 ≤ (Utf8.decode s p).2 := width_pos s p
  conv => whnf
  generalize hd : Utf8.decode s p = d at hw1
  cases hp : decide (p < s.size)
  · conv => whnf
    refine ⟨by omega, by omega, by omega, ?_⟩
    conv => whnf
    refine end_of [] (by rfl) (by rfl) (by rfl) ⟨_, ?_, rfl, rfl⟩
    rw [ByteArray.size_extract]; omega
  have hp' := of_decide_eq_true hp
  have hw2 := hw1 hp'
  conv => whnf
  cases hc : ((d.1 : Int) != 32)
  rotate_left
  · conv => whnf
    refine ⟨[0], [], relo_of [0] (by rfl) (by rfl), ?_⟩
    refine ⟨⟨p + d.2, fr, m, by omega, hfs, rfl, rfl⟩, ?_⟩
    show s.size - (p + d.2) < s.size - p
    omega
  conv => whnf
  cases hm : (m == 0)
  rotate_left
  · conv => whnf
    refine ⟨by omega, by omega, by omega, ?_⟩
    conv => whnf
    refine end_of [] (by rfl) (by rfl) (by rfl) ⟨_, ?_, rfl, rfl⟩
    rw [ByteArray.size_extract]; omega
  conv => whnf
  refine ⟨[0], [], relo_of [0] (by rfl) (by rfl), ?_⟩
  have hq : IntKind.i64.wrap ((p : Int) + 1) = ((p + 1 : Nat) : Int) := wrap_i64 (by omega) (by omega)
  refine ⟨⟨p + d.2, p + 1, IntKind.i64.wrap (m - 1), by omega, by omega, ?_, rfl⟩, ?_⟩
  · rw [← hq]; rfl
  · show s.size - (p + d.2) < s.size - p
    omega
end Sh
end Go.Proofs.YtomdfaelgcefdaaGreatDoor
