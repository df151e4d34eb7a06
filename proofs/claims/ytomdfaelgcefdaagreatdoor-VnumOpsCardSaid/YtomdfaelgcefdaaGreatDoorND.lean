/- MADE BY PROGRAM (nd.py): the reference's forms; the law. -/
import Derived.Test.YtomdfaelgcefdaaGreatDoorNC
namespace Go.Proofs.YtomdfaelgcefdaaGreatDoor
open Go
namespace Sh
def findR (op : Int) : List El_rrow → Option (El_rrow × ByteArray)
  | [] => none
  | r :: l => if op < r.first ∨ r.first + 32 ≤ op then findR op l else match nthW r.names (r.names.size + 1) (op - r.first) 0 0 with
    | some w => some (r, r.head ++ w)
    | none => findR op l
def findO : Option (El_rrow × ByteArray) → V
  | none => .tup [.agg (enc_rrow ⟨0, ⟨#[]⟩, ⟨#[]⟩, ⟨#[]⟩⟩), .str ⟨#[]⟩, .bool false]
  | some (r, w) => .tup [.agg (enc_rrow r), .str w, .bool true]
def rtab (op : Int) : List El_rrow := if 208 ≤ op then RTb else RTa
def okRow (l : List El_rrow) : Bool := l.all fun r => decide (0 ≤ r.first ∧ r.first ≤ 70000 ∧ r.names.size ≤ 999 ∧ r.head.size ≤ 999)
theorem ok_RTa : okRow RTa = true := by decide +kernel
theorem ok_RTb : okRow RTb = true := by decide +kernel
theorem RTa_len : RTa.length = 37 := rfl
theorem RTb_len : RTb.length = 26 := rfl
def fdV (op : Int) (L : Nat) (j : Int) : List V := [.int .i64 op, .ptr 0 0, .own .rrow 1 0 L .full, .int .i64 j]
theorem nthW_size (s : ByteArray) : ∀ (f : Nat) (n : Int) (fr i : Nat) (w : ByteArray), nthW s f n fr i = some w → w.size ≤ s.size
  | 0, _, _, _, _, h => by simp [nthW] at h
  | f + 1, n, fr, i, w, h => by
    rw [nthW] at h
    split at h
    · split at h
      · simp only [Option.some.injEq] at h
        rw [← h, ByteArray.size_extract]; omega
      · exact nthW_size s f _ _ _ w h
    · exact nthW_size s f _ _ _ w h

set_option maxRecDepth 100000 in
set_option maxHeartbeats 4000000 in
theorem c_find (op : Int) (hop : -9223372036854775808 ≤ op ∧ op ≤ 9223372036854775807) : SpecD S 136 [.int .i64 op] [] (findO (findR op (rtab op))) [] := by
  have hA := c_rtable
  have hB := c_rrefs
  have hoA := ok_RTa
  have hoB := ok_RTb
  have hlA := RTa_len
  have hlB := RTb_len
  unfold rtab
  generalize RTa = A at hA hoA hlA ⊢
  generalize RTb = B at hB hoB hlB ⊢
  refine specE ok sh136 rfl ?_
  conv => whnf
  refine call_of [] (hA) (by rfl) (by rfl) ?_
  conv => whnf
  cases h0 : decide (208 ≤ op)
  · have h0p := of_decide_eq_false h0
    rw [if_neg h0p]
    clear hA hB hoB hlB
    conv => whnf
    generalize hR : findR op A = R
    refine loop_of [] [0, 1] (fun vs H => ∃ (j : Nat), j ≤ A.length ∧ findR op (A.drop j) = R ∧ vs = fdV op A.length j ∧ H = [.cells [.int .i64 0, .str ⟨#[]⟩, .str ⟨#[]⟩, .str ⟨#[]⟩], .row .rrow A])
      (fun vs _ => match vs with | [_, _, _, .int _ j] => A.length - j.toNat | _ => 0) (by rfl) (by rfl) (by rfl) (by rfl) ⟨0, Nat.zero_le _, hR, rfl, rfl⟩ ?_
    rintro vs H1 ⟨j, hj, hf, rfl, rfl⟩
    conv => whnf
    cases hd : decide ((j : Int) < A.length)
    · conv => whnf
      have := of_decide_eq_false hd
      have hz : none = R := by rw [← hf, show j = A.length by omega, List.drop_length]; rfl
      rw [← hz]
      exact end_of [] (by rfl) (by rfl) (by rfl) (by exact ⟨rfl, rfl⟩)
    have := of_decide_eq_true hd
    have hw : IntKind.i64.wrap ((j : Int) + 1) = ((j + 1 : Nat) : Int) := wrap_i64 (by omega) (by omega)
    have hy := getD_at (show j < A.length by omega) (S.zero .rrow)
    have hge : A.getD (0 + Int.toNat (j : Int)) (S.zero .rrow) = A.getD j (S.zero .rrow) := by rw [Nat.zero_add, Int.toNat_natCast]
    have hor := List.all_eq_true.1 hoA _ (List.mem_of_getElem? hy)
    have hdr : A.drop j = A.getD j (S.zero .rrow) :: A.drop (j + 1) := by
      rw [List.drop_eq_getElem_cons (show j < A.length by omega)]
      congr 1
      rw [List.getElem?_eq_getElem (show j < A.length by omega)] at hy
      exact Option.some.inj hy
    rw [hdr] at hf
    generalize A.getD j (S.zero .rrow) = r at hy hge hor hf
    clear hdr
    obtain ⟨r1, r2, r3, r4⟩ := r
    simp only [decide_eq_true_eq] at hor
    obtain ⟨o1, o2, o3, o4⟩ := hor
    have hlt : (j : Int) < (A.length : Int) := by omega
    conv => whnf
    refine ⟨rfl, by omega, hlt, ?_⟩
    conv => whnf
    refine ⟨rfl, by omega, (by decide : 0 + 1 ≤ 4), ?_⟩
    rw [hge]
    conv => whnf
    have hnx : (op < r1 ∨ r1 + 32 ≤ op) ∨ nthW r3 (r3.size + 1) (op - r1) 0 0 = none → findR op (A.drop (j + 1)) = R := by
      intro hc
      rw [← hf, findR]
      by_cases hs : op < r1 ∨ r1 + 32 ≤ op
      · rw [if_pos hs]
      · rw [if_neg hs]
        simp only [hc.resolve_left hs]
    have hms : A.length - (IntKind.i64.wrap ((j : Int) + 1)).toNat < A.length - (j : Int).toNat := by rw [hw]; omega
    have hvs : ∀ z : Int, z = ((j + 1 : Nat) : Int) → fdV op A.length z = fdV op A.length ((j + 1 : Nat) : Int) := fun z h => by rw [h]
    cases h1 : decide (op < r1)
    rotate_left
    · have h1p := of_decide_eq_true h1
      conv => whnf
      refine ⟨[0, 1], [], relo_of [0, 1] (by rfl) (by rfl), ?_⟩
      exact ⟨⟨j + 1, by omega, hnx (.inl (.inl h1p)), hvs _ hw, rfl⟩, hms⟩
    have h1p := of_decide_eq_false h1
    conv => whnf
    refine ⟨rfl, by omega, hlt, ?_⟩
    conv => whnf
    refine ⟨rfl, by omega, (by decide : 0 + 1 ≤ 4), ?_⟩
    rw [hge]
    conv => whnf
    rw [wrap_i64 (show -9223372036854775808 ≤ r1 + 32 by omega) (by omega)]
    cases h2 : decide (r1 + 32 ≤ op)
    rotate_left
    · have h2p := of_decide_eq_true h2
      conv => whnf
      refine ⟨[0, 1], [], relo_of [0, 1] (by rfl) (by rfl), ?_⟩
      exact ⟨⟨j + 1, by omega, hnx (.inl (.inr h2p)), hvs _ hw, rfl⟩, hms⟩
    have h2p := of_decide_eq_false h2
    conv => whnf
    refine ⟨rfl, by omega, hlt, ?_⟩
    conv => whnf
    refine ⟨rfl, by omega, (by decide : 2 + 1 ≤ 4), ?_⟩
    rw [hge]
    conv => whnf
    refine ⟨rfl, by omega, hlt, ?_⟩
    conv => whnf
    refine ⟨rfl, by omega, (by decide : 0 + 1 ≤ 4), ?_⟩
    rw [hge]
    conv => whnf
    rw [wrap_i64 (show -9223372036854775808 ≤ op - r1 by omega) (by omega)]
    have hn := c_rnth r3 (op - r1) (by omega) (by omega) (by omega)
    have hfs : ∀ w, nthW r3 (r3.size + 1) (op - r1) 0 0 = some w → some (⟨r1, r2, r3, r4⟩, r2 ++ w) = R := by
      intro w hq
      rw [← hf, findR, if_neg (show ¬ (op < r1 ∨ r1 + 32 ≤ op) by omega)]
      simp only [hq]
    have hws : ∀ w, nthW r3 (r3.size + 1) (op - r1) 0 0 = some w → w.size ≤ r3.size := fun w => nthW_size _ _ _ _ _ _
    generalize nthW r3 (r3.size + 1) (op - r1) 0 0 = q at hn hfs hws hnx
    cases q with
    | none =>
      refine call_of [] (hn) (by rfl) (by rfl) ?_
      conv => whnf
      refine ⟨[0, 1], [], relo_of [0, 1] (by rfl) (by rfl), ?_⟩
      exact ⟨⟨j + 1, by omega, hnx (.inr rfl), hvs _ hw, rfl⟩, hms⟩
    | some w =>
      have hwz := hws w rfl
      refine call_of [] (hn) (by rfl) (by rfl) ?_
      conv => whnf
      refine ⟨rfl, by omega, hlt, ?_⟩
      conv => whnf
      refine ⟨rfl, by omega, (by decide : 0 + 4 ≤ 4), ?_⟩
      rw [hge]
      conv => whnf
      refine ⟨rfl, by omega, hlt, ?_⟩
      conv => whnf
      refine ⟨rfl, by omega, (by decide : 1 + 1 ≤ 4), ?_⟩
      rw [hge]
      conv => whnf
      have hmx : IntKind.i64.max = 9223372036854775807 := by decide
      refine ⟨by rw [hmx]; show ((r2.size + w.size : Nat) : Int) ≤ _; omega, ?_⟩
      conv => whnf
      try (refine And.intro (by repeat first | exact trivial | refine And.intro (by first | rfl | exact trivial) ?_) ?_; conv => whnf)
      rw [← hfs w rfl]
      exact end_of [] (by rfl) (by rfl) (by rfl) (by exact ⟨rfl, rfl⟩)
  · have h0p := of_decide_eq_true h0
    rw [if_pos h0p]
    clear hA hoA
    conv => whnf
    refine call_of [] (hB) (by rfl) (by rfl) ?_
    conv => whnf
    generalize hR : findR op B = R
    refine loop_of [] [0, 2] (fun vs H => ∃ (j : Nat), j ≤ B.length ∧ findR op (B.drop j) = R ∧ vs = fdV op B.length j ∧ H = [.cells [.int .i64 0, .str ⟨#[]⟩, .str ⟨#[]⟩, .str ⟨#[]⟩], .row .rrow B])
      (fun vs _ => match vs with | [_, _, _, .int _ j] => B.length - j.toNat | _ => 0) (by rfl) (by rfl) (by rfl) (by rfl) ⟨0, Nat.zero_le _, hR, rfl, rfl⟩ ?_
    rintro vs H1 ⟨j, hj, hf, rfl, rfl⟩
    conv => whnf
    cases hd : decide ((j : Int) < B.length)
    · conv => whnf
      have := of_decide_eq_false hd
      have hz : none = R := by rw [← hf, show j = B.length by omega, List.drop_length]; rfl
      rw [← hz]
      exact end_of [] (by rfl) (by rfl) (by rfl) (by exact ⟨rfl, rfl⟩)
    have := of_decide_eq_true hd
    have hw : IntKind.i64.wrap ((j : Int) + 1) = ((j + 1 : Nat) : Int) := wrap_i64 (by omega) (by omega)
    have hy := getD_at (show j < B.length by omega) (S.zero .rrow)
    have hge : B.getD (0 + Int.toNat (j : Int)) (S.zero .rrow) = B.getD j (S.zero .rrow) := by rw [Nat.zero_add, Int.toNat_natCast]
    have hor := List.all_eq_true.1 hoB _ (List.mem_of_getElem? hy)
    have hdr : B.drop j = B.getD j (S.zero .rrow) :: B.drop (j + 1) := by
      rw [List.drop_eq_getElem_cons (show j < B.length by omega)]
      congr 1
      rw [List.getElem?_eq_getElem (show j < B.length by omega)] at hy
      exact Option.some.inj hy
    rw [hdr] at hf
    generalize B.getD j (S.zero .rrow) = r at hy hge hor hf
    clear hdr
    obtain ⟨r1, r2, r3, r4⟩ := r
    simp only [decide_eq_true_eq] at hor
    obtain ⟨o1, o2, o3, o4⟩ := hor
    have hlt : (j : Int) < (B.length : Int) := by omega
    conv => whnf
    refine ⟨rfl, by omega, hlt, ?_⟩
    conv => whnf
    refine ⟨rfl, by omega, (by decide : 0 + 1 ≤ 4), ?_⟩
    rw [hge]
    conv => whnf
    have hnx : (op < r1 ∨ r1 + 32 ≤ op) ∨ nthW r3 (r3.size + 1) (op - r1) 0 0 = none → findR op (B.drop (j + 1)) = R := by
      intro hc
      rw [← hf, findR]
      by_cases hs : op < r1 ∨ r1 + 32 ≤ op
      · rw [if_pos hs]
      · rw [if_neg hs]
        simp only [hc.resolve_left hs]
    have hms : B.length - (IntKind.i64.wrap ((j : Int) + 1)).toNat < B.length - (j : Int).toNat := by rw [hw]; omega
    have hvs : ∀ z : Int, z = ((j + 1 : Nat) : Int) → fdV op B.length z = fdV op B.length ((j + 1 : Nat) : Int) := fun z h => by rw [h]
    cases h1 : decide (op < r1)
    rotate_left
    · have h1p := of_decide_eq_true h1
      conv => whnf
      refine ⟨[0, 1], [], relo_of [0, 1] (by rfl) (by rfl), ?_⟩
      exact ⟨⟨j + 1, by omega, hnx (.inl (.inl h1p)), hvs _ hw, rfl⟩, hms⟩
    have h1p := of_decide_eq_false h1
    conv => whnf
    refine ⟨rfl, by omega, hlt, ?_⟩
    conv => whnf
    refine ⟨rfl, by omega, (by decide : 0 + 1 ≤ 4), ?_⟩
    rw [hge]
    conv => whnf
    rw [wrap_i64 (show -9223372036854775808 ≤ r1 + 32 by omega) (by omega)]
    cases h2 : decide (r1 + 32 ≤ op)
    rotate_left
    · have h2p := of_decide_eq_true h2
      conv => whnf
      refine ⟨[0, 1], [], relo_of [0, 1] (by rfl) (by rfl), ?_⟩
      exact ⟨⟨j + 1, by omega, hnx (.inl (.inr h2p)), hvs _ hw, rfl⟩, hms⟩
    have h2p := of_decide_eq_false h2
    conv => whnf
    refine ⟨rfl, by omega, hlt, ?_⟩
    conv => whnf
    refine ⟨rfl, by omega, (by decide : 2 + 1 ≤ 4), ?_⟩
    rw [hge]
    conv => whnf
    refine ⟨rfl, by omega, hlt, ?_⟩
    conv => whnf
    refine ⟨rfl, by omega, (by decide : 0 + 1 ≤ 4), ?_⟩
    rw [hge]
    conv => whnf
    rw [wrap_i64 (show -9223372036854775808 ≤ op - r1 by omega) (by omega)]
    have hn := c_rnth r3 (op - r1) (by omega) (by omega) (by omega)
    have hfs : ∀ w, nthW r3 (r3.size + 1) (op - r1) 0 0 = some w → some (⟨r1, r2, r3, r4⟩, r2 ++ w) = R := by
      intro w hq
      rw [← hf, findR, if_neg (show ¬ (op < r1 ∨ r1 + 32 ≤ op) by omega)]
      simp only [hq]
    have hws : ∀ w, nthW r3 (r3.size + 1) (op - r1) 0 0 = some w → w.size ≤ r3.size := fun w => nthW_size _ _ _ _ _ _
    generalize nthW r3 (r3.size + 1) (op - r1) 0 0 = q at hn hfs hws hnx
    cases q with
    | none =>
      refine call_of [] (hn) (by rfl) (by rfl) ?_
      conv => whnf
      refine ⟨[0, 1], [], relo_of [0, 1] (by rfl) (by rfl), ?_⟩
      exact ⟨⟨j + 1, by omega, hnx (.inr rfl), hvs _ hw, rfl⟩, hms⟩
    | some w =>
      have hwz := hws w rfl
      refine call_of [] (hn) (by rfl) (by rfl) ?_
      conv => whnf
      refine ⟨rfl, by omega, hlt, ?_⟩
      conv => whnf
      refine ⟨rfl, by omega, (by decide : 0 + 4 ≤ 4), ?_⟩
      rw [hge]
      conv => whnf
      refine ⟨rfl, by omega, hlt, ?_⟩
      conv => whnf
      refine ⟨rfl, by omega, (by decide : 1 + 1 ≤ 4), ?_⟩
      rw [hge]
      conv => whnf
      have hmx : IntKind.i64.max = 9223372036854775807 := by decide
      refine ⟨by rw [hmx]; show ((r2.size + w.size : Nat) : Int) ≤ _; omega, ?_⟩
      conv => whnf
      try (refine And.intro (by repeat first | exact trivial | refine And.intro (by first | rfl | exact trivial) ?_) ?_; conv => whnf)
      rw [← hfs w rfl]
      exact end_of [] (by rfl) (by rfl) (by rfl) (by exact ⟨rfl, rfl⟩)

/-- Is it an opcode of this layer? -/
def tkA (op : Int) : Bool := sB op
theorem sB_of {op : Int} {b : Bool} (h : b = true ↔ ((26 ≤ op ∧ op ≤ 28) ∨ (32 ≤ op ∧ op ≤ 38) ∨ (40 ≤ op ∧ op ≤ 196) ∨ (64512 ≤ op ∧ op ≤ 64529))) : b = sB op := by
  cases b <;> simp [sB] at h ⊢ <;> omega

set_option maxRecDepth 100000 in
set_option maxHeartbeats 4000000 in
theorem c_rTakes (op : Int) : SpecD S 81 [.int .i64 op] [] (.bool (sB op)) [] := by
  refine specE ok sh81 rfl ?_
  conv => whnf
  cases h0 : (op == 26)
  · have h0p : ¬ op = 26 := by simpa using h0
    conv => whnf
    cases h1 : (op == 27)
    · have h1p : ¬ op = 27 := by simpa using h1
      conv => whnf
      cases h2 : (op == 28)
      · have h2p : ¬ op = 28 := by simpa using h2
        conv => whnf
        cases h3 : decide (32 ≤ op)
        · have h3p := of_decide_eq_false h3
          conv => whnf
          cases h4 : decide (40 ≤ op)
          · have h4p := of_decide_eq_false h4
            conv => whnf
            cases h5 : decide (64512 ≤ op)
            · have h5p := of_decide_eq_false h5
              conv => whnf
              exact end_of [] (by rfl) (by rfl) (by rfl) ⟨congrArg AV.bool (sB_of ⟨fun hh => Bool.noConfusion hh, fun hh => False.elim (by omega)⟩), rfl⟩
            · have h5p := of_decide_eq_true h5
              conv => whnf
              cases h6 : decide (op ≤ 64529)
              · have h6p := of_decide_eq_false h6
                conv => whnf
                exact end_of [] (by rfl) (by rfl) (by rfl) ⟨congrArg AV.bool (sB_of ⟨fun hh => Bool.noConfusion hh, fun hh => False.elim (by omega)⟩), rfl⟩
              · have h6p := of_decide_eq_true h6
                conv => whnf
                exact end_of [] (by rfl) (by rfl) (by rfl) ⟨congrArg AV.bool (sB_of ⟨fun _ => by omega, fun _ => rfl⟩), rfl⟩
          · have h4p := of_decide_eq_true h4
            conv => whnf
            cases h5 : decide (op ≤ 196)
            · have h5p := of_decide_eq_false h5
              conv => whnf
              cases h6 : decide (64512 ≤ op)
              · have h6p := of_decide_eq_false h6
                conv => whnf
                exact end_of [] (by rfl) (by rfl) (by rfl) ⟨congrArg AV.bool (sB_of ⟨fun hh => Bool.noConfusion hh, fun hh => False.elim (by omega)⟩), rfl⟩
              · have h6p := of_decide_eq_true h6
                conv => whnf
                cases h7 : decide (op ≤ 64529)
                · have h7p := of_decide_eq_false h7
                  conv => whnf
                  exact end_of [] (by rfl) (by rfl) (by rfl) ⟨congrArg AV.bool (sB_of ⟨fun hh => Bool.noConfusion hh, fun hh => False.elim (by omega)⟩), rfl⟩
                · have h7p := of_decide_eq_true h7
                  conv => whnf
                  exact end_of [] (by rfl) (by rfl) (by rfl) ⟨congrArg AV.bool (sB_of ⟨fun _ => by omega, fun _ => rfl⟩), rfl⟩
            · have h5p := of_decide_eq_true h5
              conv => whnf
              exact end_of [] (by rfl) (by rfl) (by rfl) ⟨congrArg AV.bool (sB_of ⟨fun _ => by omega, fun _ => rfl⟩), rfl⟩
        · have h3p := of_decide_eq_true h3
          conv => whnf
          cases h4 : decide (op ≤ 38)
          · have h4p := of_decide_eq_false h4
            conv => whnf
            cases h5 : decide (40 ≤ op)
            · have h5p := of_decide_eq_false h5
              conv => whnf
              cases h6 : decide (64512 ≤ op)
              · have h6p := of_decide_eq_false h6
                conv => whnf
                exact end_of [] (by rfl) (by rfl) (by rfl) ⟨congrArg AV.bool (sB_of ⟨fun hh => Bool.noConfusion hh, fun hh => False.elim (by omega)⟩), rfl⟩
              · have h6p := of_decide_eq_true h6
                conv => whnf
                cases h7 : decide (op ≤ 64529)
                · have h7p := of_decide_eq_false h7
                  conv => whnf
                  exact end_of [] (by rfl) (by rfl) (by rfl) ⟨congrArg AV.bool (sB_of ⟨fun hh => Bool.noConfusion hh, fun hh => False.elim (by omega)⟩), rfl⟩
                · have h7p := of_decide_eq_true h7
                  conv => whnf
                  exact end_of [] (by rfl) (by rfl) (by rfl) ⟨congrArg AV.bool (sB_of ⟨fun _ => by omega, fun _ => rfl⟩), rfl⟩
            · have h5p := of_decide_eq_true h5
              conv => whnf
              cases h6 : decide (op ≤ 196)
              · have h6p := of_decide_eq_false h6
                conv => whnf
                cases h7 : decide (64512 ≤ op)
                · have h7p := of_decide_eq_false h7
                  conv => whnf
                  exact end_of [] (by rfl) (by rfl) (by rfl) ⟨congrArg AV.bool (sB_of ⟨fun hh => Bool.noConfusion hh, fun hh => False.elim (by omega)⟩), rfl⟩
                · have h7p := of_decide_eq_true h7
                  conv => whnf
                  cases h8 : decide (op ≤ 64529)
                  · have h8p := of_decide_eq_false h8
                    conv => whnf
                    exact end_of [] (by rfl) (by rfl) (by rfl) ⟨congrArg AV.bool (sB_of ⟨fun hh => Bool.noConfusion hh, fun hh => False.elim (by omega)⟩), rfl⟩
                  · have h8p := of_decide_eq_true h8
                    conv => whnf
                    exact end_of [] (by rfl) (by rfl) (by rfl) ⟨congrArg AV.bool (sB_of ⟨fun _ => by omega, fun _ => rfl⟩), rfl⟩
              · have h6p := of_decide_eq_true h6
                conv => whnf
                exact end_of [] (by rfl) (by rfl) (by rfl) ⟨congrArg AV.bool (sB_of ⟨fun _ => by omega, fun _ => rfl⟩), rfl⟩
          · have h4p := of_decide_eq_true h4
            conv => whnf
            exact end_of [] (by rfl) (by rfl) (by rfl) ⟨congrArg AV.bool (sB_of ⟨fun _ => by omega, fun _ => rfl⟩), rfl⟩
      · have h2p : op = 28 := by simpa using h2
        conv => whnf
        exact end_of [] (by rfl) (by rfl) (by rfl) ⟨congrArg AV.bool (sB_of ⟨fun _ => by omega, fun _ => rfl⟩), rfl⟩
    · have h1p : op = 27 := by simpa using h1
      conv => whnf
      exact end_of [] (by rfl) (by rfl) (by rfl) ⟨congrArg AV.bool (sB_of ⟨fun _ => by omega, fun _ => rfl⟩), rfl⟩
  · have h0p : op = 26 := by simpa using h0
    conv => whnf
    exact end_of [] (by rfl) (by rfl) (by rfl) ⟨congrArg AV.bool (sB_of ⟨fun _ => by omega, fun _ => rfl⟩), rfl⟩

/-- The form of an opcode. -/
def formR (op : Int) : ByteArray := match findR op (rtab op) with
  | some (r, _) => r.form
  | none => ⟨#[]⟩

set_option maxRecDepth 100000 in
theorem c_rForm (op : Int) (hop : -9223372036854775808 ≤ op ∧ op ≤ 9223372036854775807) : SpecD S 82 [.int .i64 op] [] (.str (formR op)) [] := by
  have hf := c_find op hop
  unfold formR
  generalize findR op (rtab op) = q at hf ⊢
  refine specE ok sh82 rfl ?_
  conv => whnf
  cases q with
  | none =>
    refine call_of [] (hf) (by rfl) (by rfl) ?_
    conv => whnf
    try (refine And.intro (by repeat first | exact trivial | refine And.intro (by first | rfl | exact trivial) ?_) ?_; conv => whnf)
    exact end_of [] (by rfl) (by rfl) (by rfl) (by exact ⟨rfl, rfl⟩)
  | some p =>
    obtain ⟨⟨r1, r2, r3, r4⟩, w⟩ := p
    refine call_of [] (hf) (by rfl) (by rfl) ?_
    conv => whnf
    try (refine And.intro (by repeat first | exact trivial | refine And.intro (by first | rfl | exact trivial) ?_) ?_; conv => whnf)
    exact end_of [] (by rfl) (by rfl) (by rfl) (by exact ⟨rfl, rfl⟩)

theorem forms_a : ∀ i : Fin 171, sB (26 + (i.val : Int)) = true → ((formR (26 + (i.val : Int))).size == 0) = false := by decide +kernel
theorem forms_b : ∀ i : Fin 18, ((formR (64512 + (i.val : Int))).size == 0) = false := by decide +kernel

set_option maxRecDepth 100000 in
theorem c_known (op : Int) (hop : -9223372036854775808 ≤ op ∧ op ≤ 9223372036854775807) : SpecD S 31 [.int .i64 op] [] (.bool (sB op)) [] := by
  have ht := c_rTakes op
  have hf := c_rForm op hop
  have hne : sB op = true → strEq (formR op) ⟨#[]⟩ = false := by
    intro h
    have h0 := h
    simp only [sB, decide_eq_true_eq] at h
    have hz : ((formR op).size == 0) = false := by
      rcases (by omega : (26 ≤ op ∧ op ≤ 196) ∨ (64512 ≤ op ∧ op ≤ 64529)) with h | h
      · have := forms_a ⟨(op - 26).toNat, by omega⟩
        simp only [show (26 + (((op - 26).toNat : Nat) : Int)) = op by omega] at this
        exact this h0
      · have := forms_b ⟨(op - 64512).toNat, by omega⟩
        simpa only [show (64512 + (((op - 64512).toNat : Nat) : Int)) = op by omega] using this
    have hz' : (formR op).size ≠ 0 := by simpa using hz
    cases hs : strEq (formR op) ⟨#[]⟩ with
    | false => rfl
    | true =>
      rw [strEq_iff] at hs
      have := eq_of_beq hs
      rw [ByteArray.toList_eq, ByteArray.toList_eq] at this
      have h1 : (formR op).data = #[] := Array.ext' (by simpa using this)
      exact absurd (show (formR op).size = 0 by show (formR op).data.size = 0; rw [h1]; rfl) hz'
  generalize formR op = fo at hf hne
  generalize sB op = b at ht hne ⊢
  refine specE ok sh31 rfl ?_
  conv => whnf
  refine call_of [] (ht) (by rfl) (by rfl) ?_
  conv => whnf
  cases b
  · conv => whnf
    exact end_of [] (by rfl) (by rfl) (by rfl) (by exact ⟨rfl, rfl⟩)
  · conv => whnf
    refine call_of [] (hf) (by rfl) (by rfl) ?_
    conv => whnf
    rw [hne rfl]
    conv => whnf
    exact end_of [] (by rfl) (by rfl) (by rfl) (by exact ⟨rfl, rfl⟩)

end Sh
end Go.Proofs.YtomdfaelgcefdaaGreatDoor
