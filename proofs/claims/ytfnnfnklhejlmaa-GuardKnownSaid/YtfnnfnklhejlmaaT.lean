/- GuardTurns as a call. -/
import Derived.Test.YtfnnfnklhejlmaaS
namespace Go.Proofs.Ytfnnfnklhejlmaa
open Go.RowKit

set_option maxHeartbeats 3200000 in
theorem guardTurns_any (A : Option Addr) (n c : Nat) (out : Bool) (l : List Int) (W : World) (h : RB W A n l) (hby : Byte l) (hc : n ≤ c) (hm : n ≤ 140737488355328) : Calls Try.prog 5 #[.slice A n c, .bool out] W fun e w' => e = .returned (.bool true) ∧ Below W.heap.size W w' := by
  have HH := hid h; have HBY := hid hby
  clear h hby
  go_enter Try.func5, Try.ntmps5
  go_wp2_with fail
  refine (copybytes_any A n c l _ HH.out hm).mono ?_
  rintro e w1 ⟨v, rfl, hv, hb⟩
  obtain ⟨A0, N0, c0, rfl, hrow⟩ := row_of hv hb
  have H1 := hid (HH.out.below hb); have C1 := hid hrow.rb; have L0 := hrow.le; have M0 := hrow.max; have B1 := hid hb
  clear hv hb hrow
  have hn0 : N0 ≤ maxLen := Nat.le_trans L0 M0
  go_wp2_with fail
  refine (check_any A0 N0 c0 out l _ C1.out hn0 L0).mono ?_
  rintro e w2 ⟨rfl, hb⟩
  have H2 := hid (H1.out.below hb); have C2 := hid (C1.out.below hb); have B2 := hid (below_trans' B1.out hb)
  clear hb B1 C1 H1
  go_wp2_with fail
  refine (rcheck_any A n c out l _ H2.out hc).mono ?_
  rintro e w3 ⟨rfl, hb⟩
  have H3 := hid (H2.out.below hb); have C3 := hid (C2.out.below hb); have B3 := hid (below_trans' B2.out hb)
  clear hb B2 C2 H2
  go_wp2_with fail
  refine (out_any A0 N0 c0 l _ C3.out hn0 L0).mono ?_
  rintro e w4 ⟨A4, N4, c4, rfl, hrow⟩
  have H4 := hid (H3.out.below hrow.below); have C4 := hid (C3.out.below hrow.below); have B4 := hid (below_trans' B3.out hrow.below); have D4 := hid hrow.rb
  clear hrow B3 C3 H3
  go_wp2_with fail
  refine (rout_any A n c l _ H4.out hc).mono ?_
  rintro e w5 ⟨A5, N5, c5, rfl, hrow⟩
  have H5 := hid (H4.out.below hrow.below); have C5 := hid (C4.out.below hrow.below); have B5 := hid (below_trans' B4.out hrow.below)
  have D5 := hid (D4.out.below hrow.below); have E5 := hid hrow.rb
  clear hrow B4 C4 H4 D4
  go_wp2_with fail
  refine (back_any A0 N0 c0 l _ C5.out hn0 L0).mono ?_
  rintro e w6 ⟨A6, N6, c6, rfl, hrow⟩
  have H6 := hid (H5.out.below hrow.below); have C6 := hid (C5.out.below hrow.below); have B6 := hid (below_trans' B5.out hrow.below)
  have D6 := hid (D5.out.below hrow.below); have E6 := hid (E5.out.below hrow.below); have F6 := hid hrow.rb
  clear hrow B5 C5 H5 D5 E5
  go_wp2_with fail
  refine (rback_any A n c l _ H6.out hc).mono ?_
  rintro e w7 ⟨A7, N7, c7, rfl, hrow⟩
  have H7 := hid (H6.out.below hrow.below); have C7 := hid (C6.out.below hrow.below); have B7 := hid (below_trans' B6.out hrow.below)
  have D7 := hid (D6.out.below hrow.below); have E7 := hid (E6.out.below hrow.below); have F7 := hid (F6.out.below hrow.below); have G7 := hid hrow.rb
  clear hrow B6 C6 H6 D6 E6 F6
  go_wp2_with fail
  refine (eqbytes_at true A4 A5 N4 c4 N5 c5 (outA l) (outA l) _ D7.out E7.out (byte_outA l) (byte_outA l) (by simp)).mono ?_
  rintro e w8 ⟨rfl, rfl⟩
  go_wp2_with fail
  refine (eqbytes_at true A6 A7 N6 c6 N7 c7 (backA l) (backA l) _ F7.out G7.out (byte_backA l) (byte_backA l) (by simp)).mono ?_
  rintro e w9 ⟨rfl, rfl⟩
  go_wp2_with fail
  refine (eqbytes_at true A0 A N0 c0 n c l l _ C7.out H7.out HBY.out HBY.out (by simp)).mono ?_
  rintro e w10 ⟨rfl, rfl⟩
  go_wp2_with fail
  refine (works_any _).mono ?_
  rintro e w11 ⟨rfl, hb⟩
  have B11 := hid (below_trans' B7.out hb)
  clear hb
  go_wp2_with fail
  go_ret
  exact ⟨rfl, B11.out⟩
end Go.Proofs.Ytfnnfnklhejlmaa
