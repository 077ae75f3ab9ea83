/- the laws SegsRows, SegsReady as calls. -/
import Derived.Test.YtkkbgohijokbhaaL
namespace Go.Proofs.Ytkkbgohijokbhaa
open Go.RowKit

theorem cut_to (t e : TypeId) (kh : IntKind) {i : TypeInfo} (ht : Try.prog.underlying t = some (.slice e)) (hi : Try.prog.info? e = some i) (A : Option Addr) (n c j : Nat) (hm : j ≤ n) (hc : n ≤ c) :
    ∀ W : World, (Instr.slice t (.slice A n c) none (some (.int kh (j : Int))) none).run Try.prog W = .ok (.slice A j c) W := by
  intro W
  have hel : Try.prog.elem t = e := by simp [Program.elem, ht]
  have hu : Try.prog.underlying t = some (.slice (Try.prog.elem t)) := by rw [hel]; exact ht
  have ha : (A.map fun x => x.add 0) = A := by cases A <;> simp [Addr.add]
  rw [run_slice_h W t A n c hu kh (j : Int) (Int.natCast_nonneg _) (by omega), hel]
  simp [sizeOf, typeInfo, hi, sliced, Result.andThen, ha]

/-- the loop 'a[i].Id = -1' over a row of the call's own: what is kept of its block -/
def Kept24 (w w' : World) (B : Nat) (A : Option Addr) (N : Nat) : Prop := Below B w w' ∧ (0 < N → ∃ g o cur, A = some ⟨g, o, none⟩ ∧ B ≤ g ∧ Blk w' g 24 cur ∧ o + N * 2 ≤ cur.size)
theorem Kept24.start {w : World} {B N : Nat} {A : Option Addr} {l : List Gr.Rec} (h : OwnR w B A N l) : Kept24 w w B A N := by
  refine ⟨Below.refl _ _, fun hN => ?_⟩
  obtain ⟨g, o, cur, rfl, hg, hb, hc⟩ := h.2 hN
  refine ⟨g, o, cur, rfl, hg, hb, ?_⟩
  have hl := h.1
  obtain ⟨k, hk⟩ : ∃ k, N = k + 1 := ⟨N - 1, by omega⟩
  have h1 := (cellsR_at l k (by omega)).2
  have h2 := hc _ _ h1
  have h3 := (Array.getElem?_eq_some_iff.1 h2).1
  omega
theorem Kept24.cell {w w' : World} {B N : Nat} {A : Option Addr} (h : Kept24 w w' B A N) {k : Nat} (hk : k < N) : ∃ g o v, A = some ⟨g, o, none⟩ ∧ B ≤ g ∧ w'.cell? ⟨g, o + k * 2, none⟩ = some v ∧ w'.frozen? ⟨g, o + k * 2, none⟩ = false := by
  obtain ⟨g, o, cur, rfl, hg, hb, hc⟩ := h.2 (by omega)
  exact ⟨g, o, cur[o + k * 2]'(by omega), rfl, hg, by rw [hb.cell]; exact Array.getElem?_eq_getElem _, hb.frozen _⟩
theorem Kept24.set_ {w w' : World} {B N g o : Nat} (h : Kept24 w w' B (some ⟨g, o, none⟩) N) (hN : 0 < N) (j : Nat) (v : Value) : Kept24 w (w'.setCell ⟨g, j, none⟩ v) B (some ⟨g, o, none⟩) N := by
  obtain ⟨g', o', cur, he, hg, hb, hc⟩ := h.2 hN
  simp only [Option.some.injEq, Addr.mk.injEq, and_true] at he
  obtain ⟨rfl, rfl⟩ := he
  exact ⟨h.1.setCell hg _, fun _ => ⟨g, o, _, rfl, hg, hb.set_ j v, by simpa using hc⟩⟩
theorem Kept24.trans {w w' w1 : World} {B N : Nat} {A : Option Addr} (h : Kept24 w w' B A N) (hb : Below B w1 w) : Below B w1 w' := hb.trans h.1

set_option maxHeartbeats 3200000 in
set_option maxRecDepth 100000 in
theorem segsRows_any (A : Option Addr) (n c : Nat) (l : List Gr.Rec) (i t : Int) (w : World) (h : RD w A n l) (hnc : n ≤ c) (hm : n ≤ maxLen) :
    Calls Try.prog 3 #[.slice A n c, .agg #[.int .i64 i, .int .i64 t]] w fun e w' => e = .returned (.bool true) ∧ Below w.heap.size w w' := by
  unfold maxLen at hm
  have HM3 : Hid (300 ≤ maxLen) := hid (by unfold maxLen; omega)
  obtain ⟨L, m, hmn, hm3, HR, hbig, hsmall⟩ : ∃ (L : List Gr.Rec) (m : Nat), m ≤ n ∧ m ≤ 300 ∧ Hid (RD w A m L) ∧ Hid (300 < n → m = 300) ∧ Hid (¬ 300 < n → m = n) :=
    ⟨l.take (min n 300), min n 300, by omega, by omega, hid (h.take_ _ (by omega)), hid (fun _ => by omega), hid (fun _ => by omega)⟩
  have HMM : Hid (m ≤ maxLen) := hid (by unfold maxLen; omega)
  clear h
  obtain ⟨r, EA, hEA⟩ : ∃ r EA, Gr.add L (i, t) = (r, EA) := ⟨(Gr.add L (i, t)).1, (Gr.add L (i, t)).2, rfl⟩
  obtain ⟨E1, hE1⟩ : ∃ E1, Gr.check L = E1 := ⟨_, rfl⟩
  obtain ⟨E2, hE2⟩ : ∃ E2, Gr.next L = E2 := ⟨_, rfl⟩
  have HEA := hid hEA; have HE1 := hid hE1; have HE2 := hid hE2; clear hEA hE1 hE2
  by_cases hb : 300 < n
  case' pos => obtain rfl : m = 300 := hbig.out hb
  case' neg => obtain rfl : n = m := (hsmall.out hb).symm
  all_goals
    clear hbig hsmall
    go_enter Try.func3, Try.ntmps3
    go_wp2_with fail
    refine (copy_any A _ c L _ (HR.out.alloc _) (by omega)).mono ?_
    rintro e w1 ⟨v1, rfl, ho1, hb1⟩
    obtain ⟨A1, c1, rfl, hc1, hm1⟩ := own_slice ho1
    have HI := hid (OwnR.of_own ho1).rd
    have HA := hid ((HR.out.alloc (.cells #[.int .i64 i, .int .i64 t] 24)).below hb1)
    obtain ⟨hcb, hfb⟩ := bcell hb1
    have hx0 := hcb w.heap.size 0 (by simp)
    have hx1 := hcb w.heap.size 1 (by simp)
    simp [go_sem] at hx0 hx1
    have HB1 : Hid (Below w.heap.size w w1) := hid (((Below.refl w.heap.size w).alloc (Nat.le_refl _) _).trans (hb1.mono (by simp)))
    have hlt1 : w.heap.size < w1.heap.size := by have := hb1.size; simp at this; omega
    clear ho1 hb1 hcb hfb
    go_wp2_with fail
    refine (add_at r EA A1 _ c1 L i t _ HI.out HMM.out HEA.out).mono ?_
    rintro e w2 ⟨v2, rfl, ⟨A2, N2, c2, rfl, hc2, hm2, hr2⟩, hb2⟩
    have hy0 := (hb2.cell (p := ⟨w.heap.size, 0, none⟩) hlt1).trans hx0
    have hy1 := (hb2.cell (p := ⟨w.heap.size, 1, none⟩) hlt1).trans hx1
    have HI2 := hid (HI.out.below hb2); have HA2 := hid (HA.out.below hb2); have HR2 := hid hr2; have HB2 := hid hb2
    have hlt2 : w.heap.size < w2.heap.size := Nat.lt_of_lt_of_le hlt1 hb2.size
    clear hr2 hb2 hx0 hx1
    go_wp2_with fail
    refine (radd_at r EA A _ c L i t _ HA2.out HMM.out HEA.out).mono ?_
    rintro e w3 ⟨v3, rfl, ⟨A3, N3, c3, rfl, hc3, hm3, hr3⟩, hb3⟩
    have HI3 := hid (HI2.out.below hb3); have HA3 := hid (HA2.out.below hb3); have HR3 := hid (HR2.out.below hb3); have HQ3 := hid hr3.rd
    have HB3 : Hid (Below w1.heap.size w1 w3) := hid (below_trans' HB2.out hb3)
    clear hr3 hb3 hy0 hy1
    go_wp2_with fail
    refine (check_at E1 A1 _ c1 L _ HI3.out HMM.out HE1.out).mono ?_
    rintro e w4 ⟨rfl, hb4⟩
    have HB4 := hid hb4; clear hb4
    go_wp2_with fail
    refine (rcheck_at E1 A _ c L _ (HA3.out.below HB4.out) HMM.out HE1.out).mono ?_
    rintro e w5 ⟨rfl, hb5⟩
    have HB5 := hid (below_trans' HB4.out hb5); clear hb5
    go_wp2_with fail
    refine (next_at E2 A1 _ c1 L _ (HI3.out.below HB5.out) HMM.out HE2.out).mono ?_
    rintro e w6 ⟨rfl, hb6⟩
    have HB6 := hid (below_trans' HB5.out hb6); clear hb6
    go_wp2_with fail
    refine (rnext_any A _ c L _ (HA3.out.below HB6.out) HMM.out).mono ?_
    rw [HE2.out]
    rintro e w7 ⟨rfl, hb7⟩
    have HB7 := hid (below_trans' HB6.out hb7); clear hb7
    go_wp2_with fail
    refine (same_at true A2 A3 N2 c2 N3 c3 r r _ (HR3.out.rd.below HB7.out) (HQ3.out.below HB7.out) (Nat.le_trans hc2 hm2) (Nat.le_trans hc3 hm3) (by simp)).mono ?_
    rintro e w8 ⟨rfl, hb8⟩
    have HB8 := hid (below_trans' HB7.out hb8); clear hb8
    go_wp2_with fail
    unfold maxLen at hm2
    go_loopw [10] (fun j wr => ∃ k : Nat, k ≤ N2 ∧ j = .int .i64 k ∧ Kept24 w8 wr w1.heap.size A2 N2) (fun j _ => N2 - (intOf j).toNat)
    case atStart => exact ⟨0, Nat.zero_le _, rfl, Kept24.start (HR3.out.below HB8.out)⟩
    case round =>
      obtain ⟨k, hk, rfl, hK⟩ := hrel
      have HK := hid hK; clear hK
      by_cases hlt : k < N2
      · obtain ⟨g, o, v, rfl, hg, hcell, hfz⟩ := HK.out.cell hlt
        go_wp2
        go_roundw
        case rel => exact ⟨k + 1, by omega, by go_num, HK.out.set_ (by omega) _ _⟩
        case measure => simp [intOf]; omega
      · have hbw : Below w1.heap.size w1 wr := HB3.out.trans ((HB8.out.mono HB3.out.size).trans HK.out.1)
        have HBW := hid hbw; clear hbw
        go_wp2_with fail
        refine (same_at true A1 A _ c1 _ c L L _ (HI.out.below HBW.out) (HA.out.below HBW.out) HMM.out HMM.out (by simp)).mono ?_
        rintro e w9 ⟨rfl, hb9⟩
        have HB9 := hid hb9; clear hb9
        go_wp2_with fail
        refine (works_any _).mono ?_
        rintro e wz ⟨rfl, hbz⟩
        have HBZ := hid hbz; clear hbz
        go_wp2_with fail
        go_ret
        exact ⟨rfl, below_trans' HB1.out (below_trans' HBW.out (below_trans' HB9.out HBZ.out))⟩
end Go.Proofs.Ytkkbgohijokbhaa
