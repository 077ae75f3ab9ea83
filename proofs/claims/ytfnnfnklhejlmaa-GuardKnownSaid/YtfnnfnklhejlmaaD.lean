/- guard.laid, in, Lay. -/
import Derived.Test.YtfnnfnklhejlmaaC
namespace Go.Proofs.Ytfnnfnklhejlmaa
open Go.RowKit

/-- eight bytes, the object, eight bytes -/
def laidL (n : Nat) (a b : Int) : List Int := List.replicate 8 a ++ List.replicate n b ++ List.replicate 8 a
theorem laidL_length (n : Nat) (a b : Int) : (laidL n a b).length = n + 16 := by simp [laidL] <;> omega
/-- an object as it lies in -/
def inL (n : Nat) : List Int := (laidL n 187 107).set (8 + n - 1) 165
theorem inL_length (n : Nat) : (inL n).length = n + 16 := by simp [inL, laidL_length]

set_option maxHeartbeats 1600000 in
theorem laid_any (n : Nat) (a b : Int) (w : World) (hn : n ≤ 8192) : Calls Try.prog 24 #[.int .i64 (n : Int), .int .u8 a, .int .u8 b] w fun e w' => ∃ v, e = .returned v ∧ IsB w' w.heap.size v (laidL n a b) ∧ Below w.heap.size w w' := by
  go_enter Try.func24, Try.ntmps24
  go_wp2_with fail
  refine (repeat_any w.heap.size a 8 1 _ (by simp [go_sem]) (by omega)).mono ?_
  rintro e w1 ⟨A1, c1, rfl, hr1, hb1⟩
  have HB1 : Hid (Below w.heap.size w w1) := hid (((Below.refl w.heap.size w).alloc (Nat.le_refl _) _).trans (hb1.mono (by simp)))
  have HR1 := hid hr1; clear hr1 hb1
  go_wp2_with fail
  refine (repeat_any w1.heap.size b n 1 _ (by simp [go_sem]) hn).mono ?_
  rintro e w2 ⟨A2, c2, rfl, hr2, hb2⟩
  have hb12 : Below w1.heap.size w1 w2 := ((Below.refl w1.heap.size w1).alloc (Nat.le_refl _) _).trans (hb2.mono (by simp))
  have HR1' := hid (HR1.out.below hb12)
  have HB2 := hid (below_trans' HB1.out hb12)
  have HR2 := hid hr2; clear hr2 hb2 hb12
  go_wp2_with fail
  refine (concat_three w2.heap.size A1 A2 A1 8 c1 n c2 8 c1 _ _ _ _ (by simp [go_sem]) (by simp [go_sem]) (by simp [go_sem]) (HR1'.out.alloc _) (HR2.out.alloc _) (HR1'.out.alloc _) (by omega)).mono ?_
  rintro e w3 ⟨v, rfl, hv, hb3⟩
  have hb23 : Below w2.heap.size w2 w3 := ((Below.refl w2.heap.size w2).alloc (Nat.le_refl _) _).trans (hb3.mono (by simp))
  have HB3 := hid (below_trans' HB2.out hb23)
  have HV : Hid (IsB w3 w.heap.size v (laidL n a b)) := hid (hv.mono (by have := HB2.out.size; simp; omega))
  clear hv hb3 hb23
  go_wp2_with fail
  go_ret
  exact ⟨_, rfl, HV.out, HB3.out⟩

theorem IsB.set_ {w : World} {base : Nat} {v : Value} {l : List Int} (h : IsB w base v l) {k : Nat} (hk : k < l.length) (x : Int) :
    ∃ g, v = .slice (some ⟨g, 0, none⟩) l.length (match v with | .slice _ _ c => c | _ => 0) ∧ base ≤ g ∧ w.cell? ⟨g, k, none⟩ = some (.int .u8 (l.getD k 0)) ∧ w.frozen? ⟨g, k, none⟩ = false ∧
      IsB (w.setCell ⟨g, k, none⟩ (.int .u8 x)) base v (l.set k x) := by
  rcases h.2 with ⟨rfl, h0⟩ | ⟨g, cap, cur, rfl, hb, hg, hnc, hcm, hcs, htake⟩
  · omega
  · have hlen := h.1
    refine ⟨g, rfl, hb, ?_, ?_, ?_⟩
    · rw [cell_of_row w g k _ 5 (0, 0) hg]
      have : (cellsU l)[k]? = some (.int .u8 (l.getD k 0)) := by simp [cellsU, hk, List.getD_eq_getElem?_getD]
      rw [← htake, List.getElem?_take] at this
      split at this
      · simpa using this
      · cases this
    · simp [World.frozen?, hg]
    · refine ⟨by simp [cellsU], .inr ⟨g, cap, cur.setIfInBounds k (.int .u8 x), by simp, hb, ?_, by simpa using hnc, hcm, by simpa using hcs, ?_⟩⟩
      · simp [World.setCell, Array.getElem?_modify, hg]
      · simp only [Array.toList_setIfInBounds, List.length_set, List.take_set, htake]
        simp [cellsU, List.map_set]

set_option maxHeartbeats 1600000 in
theorem in_any (n : Nat) (w : World) (h1 : 1 ≤ n) (hn : n ≤ 1024) : Calls Try.prog 21 #[.int .i64 (n : Int)] w fun e w' => ∃ v, e = .returned v ∧ IsB w' w.heap.size v (inL n) ∧ Below w.heap.size w w' := by
  go_enter Try.func21, Try.ntmps21
  go_wp2_with fail
  refine (laid_any n 187 107 _ (by omega)).mono ?_
  rintro e w1 ⟨v, rfl, hv, hb⟩
  obtain ⟨g, hv1, hg, hc, hf, hs⟩ := hv.set_ (k := 8 + n - 1) (by rw [laidL_length]; omega) 165
  obtain ⟨c, hv2⟩ : ∃ c, v = .slice (some ⟨g, 0, none⟩) (n + 16) c := ⟨_, by rw [laidL_length] at hv1; exact hv1⟩
  subst hv2
  have HS := hid hs
  have HB := hid (hb.setCell (p := ⟨g, 8 + n - 1, none⟩) hg (.int .u8 165))
  clear hv1 hv hs hb
  obtain ⟨k, hk⟩ : ∃ k, k = 8 + n - 1 := ⟨_, rfl⟩
  rw [← hk] at hc hf HS HB
  have hk1 : (8 : Int) + (n : Int) - 1 = (k : Int) := by omega
  have hk2 : k < n + 16 := by omega
  have HK := hid hk
  clear hk
  go_wp2_with fail
  go_ret
  exact ⟨_, rfl, by rw [inL, ← HK.out]; exact HS.out, HB.out⟩

set_option maxHeartbeats 800000 in
theorem lay_ok (n : Nat) (w : World) (h1 : 1 ≤ n) (hn : n ≤ 1024) : Calls Try.prog 9 #[.int .i64 (n : Int)] w fun e w' => ∃ A N c, e = .returned (.tuple #[.slice A N c, .int .i64 0]) ∧ Hid (N ≤ maxLen) ∧ Hid (IsB w' w.heap.size (.slice A N c) (inL n)) ∧ Hid (RB w' A N (inL n)) ∧ Hid (Below w.heap.size w w') := by
  go_enter Try.func9, Try.ntmps9
  go_wp2_with fail
  refine (in_any n _ h1 hn).mono ?_
  rintro e w1 ⟨v, rfl, hv, hb⟩
  obtain ⟨A, N, c, rfl, h2, h3, h4, hr⟩ := hv.rb
  have HV := hid hv; have HB := hid hb; have HR := hid hr; have HM := hid (Nat.le_trans h3 h4)
  clear hv hb hr h2 h3 h4
  go_wp2_with fail
  go_ret2
  exact ⟨_, _, _, rfl, HM, HV, HR, HB⟩
set_option maxHeartbeats 800000 in
theorem lay_bad (c : Int) (w : World) (h : c < 1 ∨ 1024 < c) : Calls Try.prog 9 #[.int .i64 c] w fun e w' => e = .returned (.tuple #[.slice none 0 0, .int .i64 2]) ∧ w = w' := by
  rcases h with h | h
  · go_enter Try.func9, Try.ntmps9
    go_wp2
    go_ret2
    exact ⟨rfl, rfl⟩
  · have h' : ¬ c < 1 := by omega
    go_enter Try.func9, Try.ntmps9
    go_wp2
    go_ret2
    exact ⟨rfl, rfl⟩
end Go.Proofs.Ytfnnfnklhejlmaa
