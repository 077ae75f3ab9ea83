/- the reference: laid, Lay. -/
import Derived.Test.YtfnnfnklhejlmaaD
namespace Go.Proofs.Ytfnnfnklhejlmaa
open Go.RowKit

def refB (n : Nat) (a b c : Int) (i : Nat) : Int := if i < 8 ∨ n + 8 ≤ i then a else if i = n + 7 then c else b
def refL (n : Nat) (a b c : Int) (k : Nat) : List Int := (List.range k).map (refB n a b c)
theorem refL_length (n : Nat) (a b c : Int) (k : Nat) : (refL n a b c k).length = k := by simp [refL]
theorem refL_succ (n : Nat) (a b c : Int) (k : Nat) : refL n a b c (k + 1) = refL n a b c k ++ [refB n a b c k] := by simp [refL, List.range_succ]
theorem refL_get (n : Nat) (a b c : Int) (k i : Nat) (h : i < k) : (refL n a b c k)[i]? = some (refB n a b c i) := by simp [refL, h]
theorem laidL_get (n : Nat) (a b : Int) (i : Nat) (h : i < n + 16) : (laidL n a b)[i]? = some (if i < 8 ∨ n + 8 ≤ i then a else b) := by
  unfold laidL
  by_cases h1 : i < 8
  · rw [List.getElem?_append_left (by simp; omega), List.getElem?_append_left (by simp; omega), List.getElem?_replicate, if_pos h1, if_pos (.inl h1)]
  · by_cases h2 : i < n + 8
    · rw [List.getElem?_append_left (by simp; omega), List.getElem?_append_right (by simp; omega), List.getElem?_replicate, if_pos (by simp; omega), if_neg (by omega)]
    · rw [List.getElem?_append_right (by simp; omega), List.getElem?_replicate, if_pos (by simp; omega), if_pos (.inr (by omega))]
theorem refL_laid (n : Nat) (a b : Int) : refL n a b b (n + 16) = laidL n a b := by
  refine List.ext_getElem? fun i => ?_
  by_cases h : i < n + 16
  · rw [refL_get _ _ _ _ _ _ h, laidL_get _ _ _ _ h]
    unfold refB
    split
    · rfl
    · split <;> rfl
  · rw [List.getElem?_eq_none (by rw [refL_length]; omega), List.getElem?_eq_none (by rw [laidL_length]; omega)]
theorem refL_in (n : Nat) (h1 : 1 ≤ n) : refL n 187 107 165 (n + 16) = inL n := by
  refine List.ext_getElem? fun i => ?_
  unfold inL
  by_cases h : i < n + 16
  · rw [refL_get _ _ _ _ _ _ h, List.getElem?_set]
    by_cases he : 8 + n - 1 = i
    · rw [if_pos he, if_pos (by rw [laidL_length]; omega)]
      unfold refB
      rw [if_neg (by omega), if_pos (by omega)]
    · rw [if_neg he, laidL_get _ _ _ _ h]
      unfold refB
      split
      · rfl
      · rw [if_neg (by omega)]
  · rw [List.getElem?_eq_none (by rw [refL_length]; omega), List.getElem?_eq_none (by rw [List.length_set, laidL_length]; omega)]

set_option maxHeartbeats 3200000 in
theorem rlaid_any (n : Nat) (a b c : Int) (w : World) (hn : n ≤ 1024) : Calls Try.prog 22 #[.int .i64 (n : Int), .int .u8 a, .int .u8 b, .int .u8 c] w fun e w' => ∃ v, e = .returned v ∧ IsB w' w.heap.size v (refL n a b c (n + 16)) ∧ Below w.heap.size w w' := by
  obtain ⟨i0, hi0, hz0, hz1, hz2⟩ := info_parts info5
  go_enter Try.func22, Try.ntmps22
  go_wp2_with fail
  go_loopw [9, 10] (fun v i wr => ∃ (k : Nat), k ≤ n + 16 ∧ i = .int .i64 k ∧ Hid (IsB wr w.heap.size v (refL n a b c k)) ∧ Hid (Below w.heap.size w wr)) (fun _ i _ => n + 16 - (intOf i).toNat)
  case atStart => exact ⟨0, Nat.zero_le _, rfl, IsB.nil _ _, Below.refl _ _⟩
  case round =>
    obtain ⟨k, hk, rfl, HV, HB⟩ := hrel
    obtain ⟨wo, rfl⟩ : ∃ wo : World, wo = wr := ⟨_, rfl⟩
    have HO : Hid (wo.ownsRow w.heap.size 5 1 u9 k (cellsU (refL n a b c k))) := hid (by have := HV.out; unfold IsB at this; rw [refL_length] at this; exact this)
    have HA : ∀ x : Int, Hid ((wo.alloc (.cells #[.int .u8 x] 5)).ownsRow w.heap.size 5 1 u9 k (cellsU (refL n a b c k))) := fun x => hid (own_below HO.out ((Below.refl _ _).alloc (Nat.le_refl _) _))
    have HR : ∀ x : Int, Hid (Reads (wo.alloc (.cells #[.int .u8 x] 5)) 1 (some ⟨wo.heap.size, 0, none⟩) 1 (cellsU [x])) := fun x => hid (rb_cells _ wo.heap.size [x] (heap_alloc_new wo _)).2
    have HBA : ∀ x : Int, Hid (Below w.heap.size w (wo.alloc (.cells #[.int .u8 x] 5))) := fun x => hid (HB.out.alloc HB.out.size _)
    have HS : ∀ x : Int, Hid (w.heap.size ≤ (wo.alloc (.cells #[.int .u8 x] 5)).heap.size) := fun x => hid (HBA x).out.size
    by_cases hlt : k < n + 16
    · by_cases h1 : k < 8
      · go_wp2_with (at_builtin; refine wpList_append_any _ rfl (.tmp 30) (.tmp 32) 22 rfl w.heap.size 5 i0 _ 1 1 Try.underlying22 hi0 hz0 hz1 hz2 rfl (by decide) _ k (cellsU (refL n a b c k)) rfl (HA a).out (some ⟨wo.heap.size, 0, none⟩) 1 1 (cellsU [a]) rfl (HR a).out (cellsU_one _) (by unfold maxLen; omega) (by omega) (HS a).out ?_)
        intro v2 w2 hown2 hg2 _
        have HB2 := hid (below_own (HBA a).out (HA a).out hg2 (HS a).out (Nat.le_refl _))
        have HV2 : Hid (IsB w2 w.heap.size v2 (refL n a b c (k + 1))) := hid (IsB.of_own (n := k + 1) (by rw [refL_succ, cellsU_append, show refB n a b c k = a by unfold refB; rw [if_pos (.inl h1)]]; exact hown2))
        clear hown2 hg2
        go_wp2
        go_roundw
        case rel => exact ⟨k + 1, by omega, by go_num, HV2, HB2⟩
        case measure => simp [intOf]; omega
      · by_cases h2 : n + 8 ≤ k
        · go_wp2_with (at_builtin; refine wpList_append_any _ rfl (.tmp 30) (.tmp 32) 22 rfl w.heap.size 5 i0 _ 1 1 Try.underlying22 hi0 hz0 hz1 hz2 rfl (by decide) _ k (cellsU (refL n a b c k)) rfl (HA a).out (some ⟨wo.heap.size, 0, none⟩) 1 1 (cellsU [a]) rfl (HR a).out (cellsU_one _) (by unfold maxLen; omega) (by omega) (HS a).out ?_)
          intro v2 w2 hown2 hg2 _
          have HB2 := hid (below_own (HBA a).out (HA a).out hg2 (HS a).out (Nat.le_refl _))
          have HV2 : Hid (IsB w2 w.heap.size v2 (refL n a b c (k + 1))) := hid (IsB.of_own (n := k + 1) (by rw [refL_succ, cellsU_append, show refB n a b c k = a by unfold refB; rw [if_pos (.inr h2)]]; exact hown2))
          clear hown2 hg2
          go_wp2
          go_roundw
          case rel => exact ⟨k + 1, by omega, by go_num, HV2, HB2⟩
          case measure => simp [intOf]; omega
        · by_cases h3 : k = n + 7
          · go_wp2_with (at_builtin; refine wpList_append_any _ rfl (.tmp 39) (.tmp 41) 22 rfl w.heap.size 5 i0 _ 1 1 Try.underlying22 hi0 hz0 hz1 hz2 rfl (by decide) _ k (cellsU (refL n a b c k)) rfl (HA c).out (some ⟨wo.heap.size, 0, none⟩) 1 1 (cellsU [c]) rfl (HR c).out (cellsU_one _) (by unfold maxLen; omega) (by omega) (HS c).out ?_)
            intro v2 w2 hown2 hg2 _
            have HB2 := hid (below_own (HBA c).out (HA c).out hg2 (HS c).out (Nat.le_refl _))
            have HV2 : Hid (IsB w2 w.heap.size v2 (refL n a b c (k + 1))) := hid (IsB.of_own (n := k + 1) (by rw [refL_succ, cellsU_append, show refB n a b c k = c by unfold refB; rw [if_neg (by omega), if_pos h3], h3]; exact hown2))
            clear hown2 hg2
            go_wp2
            go_roundw
            case rel => exact ⟨k + 1, by omega, by go_num, HV2, HB2⟩
            case measure => simp [intOf]; omega
          · go_wp2_with (at_builtin; refine wpList_append_any _ rfl (.tmp 17) (.tmp 19) 22 rfl w.heap.size 5 i0 _ 1 1 Try.underlying22 hi0 hz0 hz1 hz2 rfl (by decide) _ k (cellsU (refL n a b c k)) rfl (HA b).out (some ⟨wo.heap.size, 0, none⟩) 1 1 (cellsU [b]) rfl (HR b).out (cellsU_one _) (by unfold maxLen; omega) (by omega) (HS b).out ?_)
            intro v2 w2 hown2 hg2 _
            have HB2 := hid (below_own (HBA b).out (HA b).out hg2 (HS b).out (Nat.le_refl _))
            have HV2 : Hid (IsB w2 w.heap.size v2 (refL n a b c (k + 1))) := hid (IsB.of_own (n := k + 1) (by rw [refL_succ, cellsU_append, show refB n a b c k = b by unfold refB; rw [if_neg (by omega), if_neg h3]]; exact hown2))
            clear hown2 hg2
            go_wp2
            go_roundw
            case rel => exact ⟨k + 1, by omega, by go_num, HV2, HB2⟩
            case measure => simp [intOf]; omega
    · obtain rfl : k = n + 16 := by omega
      go_wp2_with fail
      go_ret
      exact ⟨_, rfl, HV.out, HB.out⟩

set_option maxHeartbeats 800000 in
theorem rlay_ok (n : Nat) (w : World) (h1 : 1 ≤ n) (hn : n ≤ 1024) : Calls Try.prog 10 #[.int .i64 (n : Int)] w fun e w' => ∃ A N c, e = .returned (.tuple #[.slice A N c, .int .i64 0]) ∧ Hid (N ≤ maxLen) ∧ Hid (IsB w' w.heap.size (.slice A N c) (inL n)) ∧ Hid (RB w' A N (inL n)) ∧ Hid (Below w.heap.size w w') := by
  go_enter Try.func10, Try.ntmps10
  go_wp2_with fail
  refine (rlaid_any n 187 107 165 _ hn).mono ?_
  rw [refL_in n h1]
  rintro e w1 ⟨v, rfl, hv, hb⟩
  obtain ⟨A, N, c, rfl, h2, h3, h4, hr⟩ := hv.rb
  have HV := hid hv; have HB := hid hb; have HR := hid hr; have HM := hid (Nat.le_trans h3 h4)
  clear hv hb hr h2 h3 h4
  go_wp2_with fail
  go_ret2
  exact ⟨_, _, _, rfl, HM, HV, HR, HB⟩
set_option maxHeartbeats 800000 in
theorem rlay_bad (c : Int) (w : World) (h : c < 1 ∨ 1024 < c) : Calls Try.prog 10 #[.int .i64 c] w fun e w' => e = .returned (.tuple #[.slice none 0 0, .int .i64 2]) ∧ w = w' := by
  rcases h with h | h
  · go_enter Try.func10, Try.ntmps10
    go_wp2
    go_ret2
    exact ⟨rfl, rfl⟩
  · have h' : ¬ c < 1 := by omega
    go_enter Try.func10, Try.ntmps10
    go_wp2
    go_ret2
    exact ⟨rfl, rfl⟩
end Go.Proofs.Ytfnnfnklhejlmaa
