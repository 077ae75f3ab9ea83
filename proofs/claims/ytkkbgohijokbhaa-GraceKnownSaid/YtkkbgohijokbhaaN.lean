/- the law SegsReady as a call. -/
import Derived.Test.YtkkbgohijokbhaaM
namespace Go.Proofs.Ytkkbgohijokbhaa
open Go.RowKit

set_option maxHeartbeats 3200000 in
set_option maxRecDepth 100000 in
theorem segsReady_any (A : Option Addr) (n c : Nat) (l : List Gr.Rec) (d : Int) (w : World) (h : RD w A n l) (hnc : n ≤ c) (hm : n ≤ maxLen) :
    Calls Try.prog 4 #[.slice A n c, .int .i64 d] w fun e w' => e = .returned (.bool true) ∧ Below w.heap.size w w' := by
  unfold maxLen at hm
  have HM3 : Hid (300 ≤ maxLen) := hid (by unfold maxLen; omega)
  obtain ⟨L, m, hmn, hm3, HR, hbig, hsmall⟩ : ∃ (L : List Gr.Rec) (m : Nat), m ≤ n ∧ m ≤ 300 ∧ Hid (RD w A m L) ∧ Hid (300 < n → m = 300) ∧ Hid (¬ 300 < n → m = n) :=
    ⟨l.take (min n 300), min n 300, by omega, by omega, hid (h.take_ _ (by omega)), hid (fun _ => by omega), hid (fun _ => by omega)⟩
  have HMM : Hid (m ≤ maxLen) := hid (by unfold maxLen; omega)
  clear h
  obtain ⟨ids, rest, EA, hEA⟩ : ∃ ids rest EA, readyAns L d = (ids, rest, EA) := ⟨(readyAns L d).1, (readyAns L d).2.1, (readyAns L d).2.2, rfl⟩
  have HEA := hid hEA; clear hEA
  by_cases hb : 300 < n
  case' pos => obtain rfl : m = 300 := hbig.out hb
  case' neg => obtain rfl : n = m := (hsmall.out hb).symm
  all_goals
    clear hbig hsmall
    go_enter Try.func4, Try.ntmps4
    go_wp2_with fail
    refine (copy_any A _ c L _ HR.out (by omega)).mono ?_
    rintro e w1 ⟨v1, rfl, ho1, hb1⟩
    obtain ⟨A1, c1, rfl, hc1, hm1⟩ := own_slice ho1
    have HI := hid (OwnR.of_own ho1).rd
    have HA := hid (HR.out.below hb1)
    have HB1 := hid hb1
    clear ho1 hb1
    go_wp2_with fail
    refine (ready_at ids rest EA A1 _ c1 L d _ HI.out HMM.out HEA.out).mono ?_
    rintro e w2 ⟨v2, u2, rfl, hi2, ⟨A2, N2, c2, rfl, hc2, hm2, hr2⟩, hb2⟩
    obtain ⟨A4, N4, c4, rfl, hN4, hc4, hm4, hr4⟩ := hi2.ri
    have HI2 := hid (HI.out.below hb2); have HA2 := hid (HA.out.below hb2); have HR2 := hid hr2; have HB2 := hid hb2; have HD2 := hid hr4
    clear hr2 hb2 hi2 hr4 hN4
    go_wp2_with fail
    refine (rready_at ids rest EA A _ c L d _ HA2.out (by omega) HMM.out HEA.out).mono ?_
    rintro e w3 ⟨v3, u3, rfl, hi3, ⟨A3, N3, c3, rfl, hc3, hm3, hr3⟩, hb3⟩
    obtain ⟨A5, N5, c5, rfl, hN5, hc5, hm5, hr5⟩ := hi3.ri
    have HR3 := hid (HR2.out.below hb3); have HQ3 := hid hr3.rd; have HD3 := hid (HD2.out.below hb3); have HD5 := hid hr5
    have HB3 : Hid (Below w1.heap.size w1 w3) := hid (below_trans' HB2.out hb3)
    clear hr3 hb3 hi3 hr5 hN5
    go_wp2_with fail
    refine (eqints_at true A4 A5 N4 c4 N5 c5 ids ids _ HD3.out HD5.out (Nat.le_trans hc4 hm4) (Nat.le_trans hc5 hm5) (by simp)).mono ?_
    rintro e w4 ⟨rfl, hb4⟩
    have HB4 := hid hb4; clear hb4
    go_wp2_with fail
    refine (same_at true A2 A3 N2 c2 N3 c3 rest rest _ (HR3.out.rd.below HB4.out) (HQ3.out.below HB4.out) (Nat.le_trans hc2 hm2) (Nat.le_trans hc3 hm3) (by simp)).mono ?_
    rintro e w8 ⟨rfl, hb8⟩
    have HB8 := hid (below_trans' HB4.out hb8); clear hb8
    go_wp2_with fail
    unfold maxLen at hm2
    go_loopw [12] (fun j wr => ∃ k : Nat, k ≤ N2 ∧ j = .int .i64 k ∧ Kept24 w8 wr w1.heap.size A2 N2) (fun j _ => N2 - (intOf j).toNat)
    case atStart => exact ⟨0, Nat.zero_le _, rfl, Kept24.start (HR3.out.below HB8.out)⟩
    case round =>
      obtain ⟨k, hk, rfl, hK⟩ := hrel
      have HK := hid hK; clear hK
      by_cases hlt : k < N2
      · obtain ⟨g, o, v, rfl, hg, hcell, hfz⟩ := HK.out.cell hlt
        go_wp2
        go_roundw
        case rel => exact ⟨k + 1, by omega, by go_num, HK.out.set_ (by omega) _ _⟩
        case measure => simp [intOf]; omega
      · have hbw : Below w1.heap.size w1 wr := HB3.out.trans ((HB8.out.mono HB3.out.size).trans HK.out.1)
        have HBW := hid hbw; clear hbw
        go_wp2_with fail
        refine (same_at true A1 A _ c1 _ c L L _ (HI.out.below HBW.out) (HA.out.below HBW.out) HMM.out HMM.out (by simp)).mono ?_
        rintro e w9 ⟨rfl, hb9⟩
        have HB9 := hid hb9; clear hb9
        go_wp2_with fail
        refine (works_any _).mono ?_
        rintro e wz ⟨rfl, hbz⟩
        have HBZ := hid hbz; clear hbz
        go_wp2_with fail
        go_ret
        exact ⟨rfl, below_trans' HB1.out (below_trans' HBW.out (below_trans' HB9.out HBZ.out))⟩
end Go.Proofs.Ytkkbgohijokbhaa
