/- the law SegsCut as a call. -/
import Derived.Test.YtkkbgohijokbhaaO
import Derived.Test.YtkkbgohijokbhaaGrb
namespace Go.Proofs.Ytkkbgohijokbhaa
open Go.RowKit

theorem readyAns_zero {l : List Gr.Rec} {d : Int} (h : Gr.check l = 0) : readyAns l d = (Gr.readyIds l d, Gr.readyRest l d, 0) := by unfold readyAns; rw [if_pos h]
theorem readyAns_bad {l : List Gr.Rec} {d : Int} {E : Int} (h : Gr.check l = E) (hE : E ≠ 0) : readyAns l d = ([], [], E) := by unfold readyAns; rw [if_neg (by rw [h]; exact hE), h]
theorem RD.lenE {w : World} {A : Option Addr} {n : Nat} {l : List Gr.Rec} (h : RD w A n l) : n = l.length := h.1
theorem RI.get {w : World} {n : Nat} {A : Option Addr} {l : List Int} (h : RI w A n l) (k : Nat) (x : Int) (hx : l[k]? = some x) : ∃ b o, A = some ⟨b, o, none⟩ ∧ b < w.heap.size ∧ w.cell? ⟨b, o + k, none⟩ = some (.int .i64 x) := by
  obtain ⟨hk, rfl⟩ := List.getElem?_eq_some_iff.1 hx
  exact h.at_ (by rw [h.1]; exact hk)

set_option maxHeartbeats 3200000 in
set_option maxRecDepth 100000 in
theorem segsCut_any (A : Option Addr) (n c : Nat) (l : List Gr.Rec) (d : Int) (w : World) (h : RD w A n l) (_hnc : n ≤ c) (hm : n ≤ maxLen) :
    Calls Try.prog 5 #[.slice A n c, .int .i64 d] w fun e w' => e = .returned (.bool true) ∧ Below w.heap.size w w' := by
  have H := hid h; have HL := hid h.1; have HM := hid hm
  clear h
  unfold maxLen at hm
  rcases Gr.check_vals l with h0 | h0 | h0
  · have hn : n ≤ 256 := by rw [HL.out]; exact len_of_check h0
    obtain ⟨p, hp, hids, hrest, hle, hgt⟩ := Gr.cut_facts l d h0
    have hpn : p ≤ n := by rw [HL.out]; exact hp
    have HEA := hid ((readyAns_zero (d := d) h0).trans (by rw [hids, hrest]))
    have HEB : Hid (readyAns (l.drop p) d = ([], l.drop p, 0)) := hid (by
      have := Gr.ready_none (l.drop p) d (fun hl => by
        have := hgt p (by rw [List.length_drop] at hl; omega) (Nat.le_refl _)
        simpa using this)
      rw [readyAns_zero (Gr.check_drop l p h0), this.1, this.2])
    have hle' : ∀ (i : Nat) (x : Gr.Rec), l[i]? = some x → i < p → x.2 ≤ d := fun i x hx hip => by
      obtain ⟨hi, rfl⟩ := List.getElem?_eq_some_iff.1 hx
      exact hle i hi hip
    have hgt' : ∀ (i : Nat) (x : Gr.Rec), l[i]? = some x → p ≤ i → d < x.2 := fun i x hx hip => by
      obtain ⟨hi, rfl⟩ := List.getElem?_eq_some_iff.1 hx
      exact hgt i hi hip
    have HLE := hid hle'; have HGT := hid hgt'
    clear h0 hids hrest hle hgt hle' hgt'
    go_enter Try.func5, Try.ntmps5
    go_wp2_with fail
    refine (works_any _).mono ?_
    rintro e w1 ⟨rfl, hb1⟩
    have HB1 := hid hb1; clear hb1
    go_wp2_with fail
    refine (ready_at _ _ 0 A n c l d _ (H.out.below HB1.out) HM.out HEA.out).mono ?_
    rintro e w2 ⟨v2, u2, rfl, hi2, ⟨A2, N2, c2, rfl, hc2, hm2, hr2⟩, hb2⟩
    obtain ⟨A4, N4, c4, rfl, hN4, hc4, hm4, hr4⟩ := hi2.ri
    obtain rfl : N4 = p := by rw [hN4]; simp; omega
    have hN2 : N2 = n - N4 := by rw [hr2.rd.1, HL.out]; simp
    subst hN2
    have HB2 := hid (below_trans' HB1.out hb2)
    have HA2 := hid (H.out.below HB2.out); have HR2 := hid hr2.rd; have HD2 := hid hr4; have HM2 := hid hm2; have HM4 := hid hm4
    clear hr2 hb2 hi2 hr4 hN4 hm2 hm4
    have hsum : ((N4 : Int) + ((n - N4 : Nat) : Int) != (n : Int)) = false := by rw [bne_eq_false_iff_eq]; omega
    go_wp2_with fail
    clear hsum
    go_loopw [8] (fun j wr => ∃ k : Nat, k ≤ n ∧ j = .int .i64 k ∧ Below w2.heap.size w2 wr) (fun j _ => n - (intOf j).toNat)
    case atStart => exact ⟨0, Nat.zero_le _, rfl, Below.refl _ _⟩
    case round =>
      obtain ⟨k, hk, rfl, hb⟩ := hrel
      have HB := hid hb
      by_cases hlt : k < n
      · obtain ⟨⟨i1, t1⟩, hx⟩ : ∃ x, l[k]? = some x := ⟨_, List.getElem?_eq_getElem (by rw [← HL.out]; exact hlt)⟩
        obtain ⟨b, o, rfl, hbo, c1, c2'⟩ := HA2.out.get k _ hx
        have d1 := (hb.cell (p := ⟨b, o + k * 2, none⟩) hbo).trans c1
        have d2 := (hb.cell (p := ⟨b, o + k * 2 + 1, none⟩) hbo).trans c2'
        simp only at d1 d2
        have HX := hid hx
        clear c1 c2' hx
        have hk0 : (0 : Int) ≤ (k : Int) := by omega
        by_cases hkp : k < N4
        · obtain ⟨b', o', rfl, hbo', c1'⟩ := HD2.out.get k i1 (by rw [List.getElem?_map, List.getElem?_take, if_pos hkp, HX.out]; rfl)
          have d3 := (hb.cell (p := ⟨b', o' + k, none⟩) hbo').trans c1'
          clear c1' hb
          have ht := HLE.out k _ HX.out hkp
          have b1 : decide ((k : Int) < (N4 : Int)) = true := decide_eq_true (by omega)
          have b1' : decide (k < N4) = true := decide_eq_true hkp
          have b2 : decide (d < t1) = false := decide_eq_false (by simp only at ht; omega)
          have b3 : decide ((N4 : Int) ≤ (k : Int)) = false := decide_eq_false (by omega)
          have b3' : decide (N4 ≤ k) = false := decide_eq_false (by omega)
          clear ht
          go_wp2
          go_quiet (fail)
          go_wp2
          go_quiet (fail)
          go_wp2
          go_roundw
          case rel => exact ⟨k + 1, by omega, by go_num, below_drewN HB.out _⟩
          case measure => simp [intOf]; omega
        · obtain ⟨b', o', rfl, hbo', c1', c2'⟩ := HR2.out.get (k - N4) (i1, t1) (by rw [List.getElem?_drop, show N4 + (k - N4) = k by omega]; exact HX.out)
          have d3 := (hb.cell (p := ⟨b', o' + (k - N4) * 2, none⟩) hbo').trans c1'
          have d4 := (hb.cell (p := ⟨b', o' + (k - N4) * 2 + 1, none⟩) hbo').trans c2'
          simp only at d3 d4
          clear c1' c2' hb
          have ht := HGT.out k _ HX.out (by omega)
          have b1 : decide ((k : Int) < (N4 : Int)) = false := decide_eq_false (by omega)
          have b1' : decide (k < N4) = false := decide_eq_false hkp
          have b2 : decide (t1 ≤ d) = false := decide_eq_false (by simp only at ht; omega)
          have b3 : decide ((N4 : Int) ≤ (k : Int)) = true := decide_eq_true (by omega)
          have b3' : decide (N4 ≤ k) = true := decide_eq_true (by omega)
          have e1 : IntKind.i64.wrap ((k : Int) - (N4 : Int)) = (k : Int) - (N4 : Int) := IntWalk.i64_in _ (by omega)
          have e2 : 0 ≤ (k : Int) - (N4 : Int) := by omega
          have e3 : ((k : Int) - (N4 : Int)).toNat = k - N4 := by omega
          have e4 : (k : Int) - (N4 : Int) < ((n - N4 : Nat) : Int) := by omega
          have e5 : (N4 : Int) ≤ (k : Int) := by omega
          have e6 : N4 ≤ k := by omega
          clear ht
          go_wp2
          go_quiet (fail)
          go_wp2
          go_quiet (fail)
          go_wp2
          go_roundw
          case rel => exact ⟨k + 1, by omega, by go_num, below_drewN HB.out _⟩
          case measure => simp [intOf]; omega
      · clear hb
        go_wp2_with fail
        refine (ready_at _ _ 0 A2 (n - N4) c2 (l.drop N4) d _ (HR2.out.below HB.out) (Nat.le_trans hc2 HM2.out) HEB.out).mono ?_
        rintro e w4 ⟨v4, u4, rfl, hi4, ⟨A6, N6, c6, rfl, hc6, hm6, hr6⟩, hb4⟩
        obtain ⟨A7, N7, c7, rfl, hN7, hc7, hm7, hr7⟩ := hi4.ri
        obtain rfl : N7 = 0 := hN7
        have hN6 : N6 = n - N4 := by rw [hr6.rd.1, HR2.out.1]
        subst hN6
        have HB4 := hid hb4
        clear hr6 hb4 hi4 hr7
        go_wp2_with fail
        go_ret
        exact ⟨rfl, below_trans' HB2.out (below_trans' HB.out HB4.out)⟩
  all_goals
    have HEA := hid (readyAns_bad (d := d) h0 (by decide))
    have H0 := hid h0; clear h0
    go_enter Try.func5, Try.ntmps5
    go_wp2_with fail
    refine (works_any _).mono ?_
    rintro e w1 ⟨rfl, hb1⟩
    have HB1 := hid hb1; clear hb1
    go_wp2_with fail
    refine (ready_at _ _ _ A n c l d _ (H.out.below HB1.out) HM.out HEA.out).mono ?_
    rintro e w2 ⟨v2, u2, rfl, hi2, ⟨A2, N2, c2, rfl, hc2, hm2, hr2⟩, hb2⟩
    obtain ⟨A4, N4, c4, rfl, hN4, hc4, hm4, hr4⟩ := hi2.ri
    obtain rfl : N4 = 0 := hN4
    obtain rfl : N2 = 0 := hr2.1
    have HB2 := hid (below_trans' HB1.out hb2)
    clear hr2 hb2 hi2 hr4
    go_wp2_with fail
    refine (check_at _ A n c l _ (H.out.below HB2.out) HM.out H0.out).mono ?_
    rintro e w3 ⟨rfl, hb3⟩
    have HB3 := hid hb3; clear hb3
    go_wp2_with fail
    go_ret
    exact ⟨rfl, below_trans' HB2.out HB3.out⟩
end Go.Proofs.Ytkkbgohijokbhaa
