/- GuardRound as a call. -/
import Derived.Test.YtfnnfnklhejlmaaU
namespace Go.Proofs.Ytfnnfnklhejlmaa
open Go.RowKit

theorem lay_at (E : Int) (R : List Int) (c : Int) (w : World) (hE : layE c = E) (hR : layL c = R) : Calls Try.prog 9 #[.int .i64 c] w fun e w' => ∃ A N C, e = .returned (.tuple #[.slice A N C, .int .i64 E]) ∧ Row w w' A N C R := by
  rw [← hE, ← hR]; exact lay_any c w
theorem layE_in (k : Nat) (hk : k < 1024) : layE (1 + (k : Int)) = 0 := by unfold layE; rw [if_pos (by omega)]
theorem layL_in (k : Nat) (hk : k < 1024) : layL (1 + (k : Int)) = inL (k + 1) := by unfold layL; rw [if_pos (by omega), show (1 + (k : Int)).toNat = k + 1 by omega]

theorem IsB.rb_ {w : World} {base : Nat} {A : Option Addr} {n c : Nat} {l : List Int} (h : IsB w base (.slice A n c) l) : RB w A n l := by
  obtain ⟨_, _, _, hv, -, -, -, hr⟩ := h.rb
  cases hv; exact hr

set_option maxHeartbeats 3200000 in
set_option maxRecDepth 100000 in
theorem guardRound_any (size : Int) (A : Option Addr) (n c : Nat) (l : List Int) (pos : Int) (W : World) (h : RB W A n l) (hby : Byte l) (_hc : n ≤ c) (hr : n ≤ 140737488351232) : Calls Try.prog 6 #[.int .i64 size, .slice A n c, .int .i64 pos] W fun e w' => e = .returned (.bool true) ∧ Below W.heap.size W w' := by
  have HH := hid h; have HBY := hid hby
  obtain ⟨k, hk, hk2⟩ := bring_nat size 1024 (by omega)
  obtain ⟨p, hp, hp2⟩ := bring_nat pos (1 + (k : Int)) (by omega)
  have HK := hid hk; have HP := hid hp
  have hk3 : k < 1024 := by omega
  have hp3 : p < k + 1 := by omega
  clear h hby hk hp
  go_enter Try.func6, Try.ntmps6
  go_wp2_with fail
  refine (works_any _).mono ?_
  rintro e w1 ⟨rfl, hb⟩
  have H1 := hid (HH.out.below hb); have B1 := hid hb
  clear hb
  go_wp2_with fail
  refine (bring_at k size 1024 (by omega) (by omega) HK.out _).mono ?_
  rintro e w2 ⟨rfl, rfl⟩
  go_wp2_with fail
  refine (lay_at 0 (inL (k + 1)) _ _ (layE_in k hk3) (layL_in k hk3)).mono ?_
  rintro e w3 ⟨A3, N3, c3, rfl, hrow⟩
  obtain rfl : N3 = k + 17 := by rw [hrow.len, inL_length]
  have H3 := hid (H1.out.below hrow.below); have B3 := hid (below_trans' B1.out hrow.below); have R3 := hid hrow
  clear hrow
  go_wp2_with fail
  refine (out_at 0 (laidL (k + 1) 204 90) A3 (k + 17) c3 (inL (k + 1)) _ R3.out.rb (Nat.le_trans R3.out.le R3.out.max) R3.out.le (turnE_in (by omega) (by omega)) (outA_in (by omega) (by omega))).mono ?_
  rintro e w4 ⟨A4, N4, c4, rfl, hrow⟩
  obtain rfl : N4 = k + 17 := by rw [hrow.len, laidL_length]
  have H4 := hid (H3.out.below hrow.below); have B4 := hid (below_trans' B3.out hrow.below); have R4 := hid hrow
  have L4 := hid (R3.out.own.below hrow.below)
  have D4 : Hid (∀ b o b' o', A4 = some ⟨b, o, none⟩ → A3 = some ⟨b', o', none⟩ → b' ≠ b) := hid (fun b o b' o' e1 e2 => by
    have := (R3.out.own.block b' o' e2).2
    have := (hrow.own.block b o e1).1
    omega)
  clear hrow
  have hlen : ((k : Int) + 17 != 1 + (k : Int) + 16) = false := by rw [bne_eq_false_iff_eq]; omega
  go_wp2_with fail
  refine (bring_at p pos (1 + (k : Int)) (by omega) (by omega) HP.out _).mono ?_
  rintro e w5 ⟨rfl, rfl⟩
  go_wp2_with fail
  clear hlen
  go_loopw [11] (fun i wr => ∃ j : Nat, j ≤ n ∧ i = .int .i64 j ∧ Hid (Below W.heap.size W wr) ∧ Hid (RB wr A n l) ∧ Hid (IsB wr w1.heap.size (.slice A3 (k + 17) c3) (inL (k + 1))) ∧ Hid (∃ O, OutOk (k + 1) O ∧ IsB wr w3.heap.size (.slice A4 (k + 17) c4) O)) (fun i _ => n - (intOf i).toNat)
  case atStart => exact ⟨0, Nat.zero_le _, rfl, B4, H4, L4, ⟨_, outOk_laid _, R4.out.own⟩⟩
  case round =>
    obtain ⟨j, hj, rfl, BB, RR, LL, OO⟩ := hrel
    have hj2 : j ≤ 140737488351232 := by omega
    by_cases hlt : j < n
    · by_cases hlt2 : p + j < k + 1
      · obtain ⟨x, hx⟩ : ∃ x, l[j]? = some x := ⟨_, List.getElem?_eq_getElem (by rw [← RR.out.1]; exact hlt)⟩
        obtain ⟨b, o, rfl, hbl, cx⟩ := RR.out.get j x hx
        obtain ⟨q, hq⟩ : ∃ q, q = 8 + p + j := ⟨_, rfl⟩
        have hq1 : (8 : Int) + (p : Int) + (j : Int) = (q : Int) := by omega
        have hq2 : q < k + 17 := by omega
        have hlt3 : (p : Int) + (j : Int) < 1 + (k : Int) := by omega
        obtain ⟨O, hO, hI⟩ := OO.out
        obtain ⟨g, rfl, hg, hc, hf, hs⟩ := hI.poke (k := q) (by omega) x
        have HI := hid hs
        have HO := hid (hO.set q x (by omega) (by omega))
        have HBB := hid (BB.out.setCell (p := ⟨g, q, none⟩) (Nat.le_trans B3.out.size hg) (.int .u8 x))
        have HLL := hid (LL.out.far ⟨g, q, none⟩ (fun b' o' h => D4.out g 0 b' o' rfl h) (.int .u8 x))
        have hbg : b ≠ g := by
          obtain ⟨b', o', hA, hb', -⟩ := HH.out.2.2 (by omega)
          injection hA with hA
          injection hA with e1 e2 e3
          have := B3.out.size
          omega
        have HRR := hid (RR.out.far ⟨g, q, none⟩ (fun b' o' h => by cases h; exact hbg) (.int .u8 x))
        clear hs hI hO hx hbl hbg hq OO
        go_wp2_with fail
        go_roundw
        case rel => exact ⟨j + 1, by omega, by go_num, HBB, HRR, HLL, ⟨_, HO.out, HI.out⟩⟩
        case measure => simp [intOf]; omega
      · have hlt3 : ¬ (p : Int) + (j : Int) < 1 + (k : Int) := by omega
        go_wp2_with fail
        obtain ⟨O, hO, hI⟩ := OO.out
        have HO := hid hO; have HI := hid hI.rb_
        clear hO hI OO
        refine (back_at 0 (inL (k + 1)) A4 (k + 17) c4 O _ HI.out (Nat.le_trans R4.out.le R4.out.max) R4.out.le (turnE_out HO.out (by omega) (by omega)) (backA_out HO.out (by omega) (by omega))).mono ?_
        rintro e w6 ⟨A6, N6, c6, rfl, hrow⟩
        have R6 := hid hrow.rb; have L6 := hid (LL.out.rb_.below hrow.below); have B6 := hid (below_trans' BB.out hrow.below)
        clear hrow
        go_wp2_with fail
        refine (eqbytes_at true A6 A3 N6 c6 (k + 17) c3 (inL (k + 1)) (inL (k + 1)) _ R6.out L6.out (byte_inL _) (byte_inL _) (by simp)).mono ?_
        rintro e w7 ⟨rfl, rfl⟩
        go_wp2_with fail
        go_ret
        exact ⟨rfl, B6.out⟩
    · go_wp2_with fail
      obtain ⟨O, hO, hI⟩ := OO.out
      have HO := hid hO; have HI := hid hI.rb_
      clear hO hI OO
      refine (back_at 0 (inL (k + 1)) A4 (k + 17) c4 O _ HI.out (Nat.le_trans R4.out.le R4.out.max) R4.out.le (turnE_out HO.out (by omega) (by omega)) (backA_out HO.out (by omega) (by omega))).mono ?_
      rintro e w6 ⟨A6, N6, c6, rfl, hrow⟩
      have R6 := hid hrow.rb; have L6 := hid (LL.out.rb_.below hrow.below); have B6 := hid (below_trans' BB.out hrow.below)
      clear hrow
      go_wp2_with fail
      refine (eqbytes_at true A6 A3 N6 c6 (k + 17) c3 (inL (k + 1)) (inL (k + 1)) _ R6.out L6.out (byte_inL _) (byte_inL _) (by simp)).mono ?_
      rintro e w7 ⟨rfl, rfl⟩
      go_wp2_with fail
      go_ret
      exact ⟨rfl, B6.out⟩
end Go.Proofs.Ytfnnfnklhejlmaa
