/- works answers true. -/
import Derived.Test.YtfnnfnklhejlmaaQ
import Derived.Laws.OwnMore
namespace Go.Proofs.Ytfnnfnklhejlmaa
open Go.RowKit

theorem inL2 : strOfNums (inL 2) = { data := #[187, 187, 187, 187, 187, 187, 187, 187, 107, 165, 187, 187, 187, 187, 187, 187, 187, 187] } := by kernel_rfl
theorem outL2 : strOfNums (outA (inL 2)) = { data := #[204, 204, 204, 204, 204, 204, 204, 204, 90, 90, 204, 204, 204, 204, 204, 204, 204, 204] } := by kernel_rfl
theorem chkw1 : chk (inL 2) true = (0, 180) := by kernel_rfl
theorem chkw2 : chk (inL 1) false = (0, 0) := by kernel_rfl
theorem turnw : turnE (inL 2) false = 0 := by kernel_rfl
theorem chkw3 : chk (List.replicate 16 0) false = (0, 2) := by kernel_rfl

/-- make([]byte, n) -/
theorem mkU (n : Nat) (hn : n ≤ 1048576) (w : World) : ∃ w', (Instr.makeSlice 22 (.int .i64 (n : Int)) (.int .i64 (n : Int))).run Try.prog w = .ok (.slice (some ⟨w.heap.size, 0, none⟩) n n) w' ∧
    IsB w' w.heap.size (.slice (some ⟨w.heap.size, 0, none⟩) n n) (List.replicate n 0) ∧ Below w.heap.size w w' := by
  obtain ⟨i0, hi0, hz0, hz1, hz2⟩ := info_parts info5
  obtain ⟨w', h1, h2, h3⟩ := run_makeSlice_full (P := Try.prog) w w.heap.size 22 5 i0 _ 1 Try.underlying22 hi0 hz0 hz1 .i64 .i64 n (by omega) (by rw [hz2]; omega) (by unfold maxLen; omega) (Nat.le_refl _)
  refine ⟨w', h1, ?_, own_none_below h3 (Nat.le_refl _)⟩
  refine IsB.of_own (n := n) ?_
  have : (madeCells (Value.int .u8 0).cells (n * 1)).toList = cellsU (List.replicate n 0) := by
    rw [Nat.mul_one, show (Value.int .u8 0).cells = #[.int .u8 0] from rfl, toList_madeCells_one]
    simp [cellsU]
  rw [← this]
  exact h2

set_option maxHeartbeats 1600000 in
theorem works_any (w : World) : Calls Try.prog 12 #[] w fun e w' => e = .returned (.bool true) ∧ Below w.heap.size w w' := by
  go_enter Try.func12, Try.ntmps12
  go_wp2_with fail
  refine (lay_any 2 _).mono ?_
  rintro e w1 ⟨A1, N1, c1, rfl, h1⟩
  have H1 := hid h1.rb; have B1 := hid h1.below; have L1 := hid h1.le; have M1 := hid h1.max
  clear h1
  rw [show layL 2 = inL 2 from rfl] at H1
  rw [show layE 2 = 0 from rfl]
  go_wp2_with fail
  refine (out_any A1 N1 c1 _ _ H1.out (Nat.le_trans L1.out M1.out) L1.out).mono ?_
  rintro e w2 ⟨A2, N2, c2, rfl, h2⟩
  have H2 := hid h2.rb; have B2 := hid (below_trans' B1.out h2.below)
  have H1' := hid (H1.out.below h2.below)
  clear h2
  rw [turnw]
  go_wp2_with fail
  refine (check_at 0 180 A1 N1 c1 true _ _ H1'.out (Nat.le_trans L1.out M1.out) L1.out chkw1).mono ?_
  rintro e w3 ⟨rfl, hb3⟩
  have B3 := hid (below_trans' B2.out hb3); have H1'' := hid (H1'.out.below hb3); have H2' := hid (H2.out.below hb3)
  clear hb3
  go_wp2_with fail
  refine (lay_any 1 _).mono ?_
  rintro e w4 ⟨A4, N4, c4, rfl, h4⟩
  have H4 := hid h4.rb; have B4 := hid (below_trans' B3.out h4.below); have L4 := hid h4.le; have M4 := hid h4.max
  have H13 := hid (H1''.out.below h4.below); have H23 := hid (H2'.out.below h4.below)
  clear h4
  rw [show layL 1 = inL 1 from rfl] at H4
  rw [show layE 1 = 0 from rfl]
  go_wp2_with fail
  refine (check_at 0 0 A4 N4 c4 false _ _ H4.out (Nat.le_trans L4.out M4.out) L4.out chkw2).mono ?_
  rintro e w5 ⟨rfl, hb5⟩
  have B5 := hid (below_trans' B4.out hb5); have H15 := hid (H13.out.below hb5); have H25 := hid (H23.out.below hb5)
  clear hb5
  obtain ⟨w6, hm, hb, hb6⟩ := mkU 16 (by omega) w5
  have B6 := hid (below_trans' B5.out hb6); have H16 := hid (H15.out.below hb6); have H26 := hid (H25.out.below hb6)
  have H6 := hid (row_of hb hb6)
  clear hb hb6
  obtain ⟨A6, N6, c6, hv, hr⟩ := H6.out
  rw [hv] at hm
  have HR := hid hr.rb; have L6 := hid hr.le; have M6 := hid hr.max
  have hm2 : (Instr.makeSlice 22 (.int .i64 16) (.int .i64 16)).run Try.prog w5 = .ok (.slice A6 N6 c6) w6 := hm
  clear hv hr H6 hm
  go_wp2_with fail
  refine (check_at 0 2 A6 N6 c6 false _ _ HR.out (Nat.le_trans L6.out M6.out) L6.out chkw3).mono ?_
  rintro e w7 ⟨rfl, hb7⟩
  have B7 := hid (below_trans' B6.out hb7); have H17 := hid (H16.out.below hb7); have H27 := hid (H26.out.below hb7)
  clear hb7 hm2
  have q1 := conv_bytes w7 A1 N1 c1 _ H17.out
  have q2 := conv_bytes w7 A2 N2 c2 _ H27.out
  rw [inL2] at q1
  rw [outL2] at q2
  go_wp2_with fail
  go_ret
  exact ⟨rfl, B7.out⟩
end Go.Proofs.Ytfnnfnklhejlmaa
