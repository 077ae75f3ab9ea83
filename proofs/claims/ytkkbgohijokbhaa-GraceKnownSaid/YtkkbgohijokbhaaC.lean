/- WALKS over the reference of package segs: Check. -/
import Derived.Test.YtkkbgohijokbhaaB
import Derived.IntWalk
namespace Go.Proofs.Ytkkbgohijokbhaa
open Go.RowKit

/-- what came before the k-th: its At, or 1 -/
def prevAt (l : List Gr.Rec) : Nat → Int
  | 0 => 1
  | k + 1 => (l.getD k (0, 0)).2
theorem prevAt_pos {l : List Gr.Rec} {k : Nat} (h : 0 < k) (hk : k - 1 < l.length) : prevAt l k = (l[k - 1]).2 := by
  obtain ⟨j, rfl⟩ : ∃ j, k = j + 1 := ⟨k - 1, by omega⟩
  simp only [Nat.add_sub_cancel] at hk ⊢
  simp [prevAt, List.getD, List.getElem?_eq_getElem hk]
theorem prevAt_zero {l : List Gr.Rec} {k : Nat} (h : ¬ 0 < k) : prevAt l k = 1 := by
  obtain rfl : k = 0 := by omega
  rfl

theorem rround {l : List Gr.Rec} {k n : Nat} {w wr : World} {id at' : Int} (hc : Hid (Gr.chk (prevAt l k) (l.drop k) = Gr.chk 1 l)) (HQ : Hid (k < l.length)) (HI : Hid (id = (l[k]'HQ.out).1)) (HA : Hid (at' = (l[k]'HQ.out).2))
    (h1 : 0 ≤ id ∧ id ≤ 9007199254740991) (h2 : prevAt l k ≤ at') (h3 : at' ≤ 9007199254740991) (h4 : 1 ≤ at') (hlt : k < n) (hb : Below w.heap.size w wr) :
    ∃ j : Nat, j ≤ n ∧ Value.int .i64 ((k : Int) + 1) = .int .i64 j ∧ Hid (Gr.chk (prevAt l j) (l.drop j) = Gr.chk 1 l) ∧ Hid (1 ≤ prevAt l j) ∧ Below w.heap.size w wr := by
  have hp : prevAt l (k + 1) = (l[k]'HQ.out).2 := prevAt_pos (k := k + 1) (by omega) HQ.out
  refine ⟨k + 1, by omega, by go_num, hid ?_, hid ?_, hb⟩
  · rw [hp]
    exact chk_good HQ.out hc.out (by rw [← HI.out, ← HA.out]; exact ⟨h1.1, h1.2, h2, h3⟩)
  · rw [hp, ← HA.out]; exact h4

set_option maxHeartbeats 800000 in
set_option maxRecDepth 100000 in
theorem rcheck_any (A : Option Addr) (n c : Nat) (l : List Gr.Rec) (w : World) (h : RD w A n l) (hm : n ≤ maxLen) :
    Calls Try.prog 16 #[.slice A n c] w fun e w' => e = .returned (.int .i64 (Gr.check l)) ∧ Below w.heap.size w w' := by
  unfold maxLen at hm
  have hl := h.1
  have H := hid h; have HL := hid hl; clear h hl
  by_cases hbig : n ≤ 256
  · go_enter Try.func16, Try.ntmps16
    go_wp2
    go_loopw [3] (fun i wr => ∃ (k : Nat), k ≤ n ∧ i = .int .i64 k ∧ Hid (Gr.chk (prevAt l k) (l.drop k) = Gr.chk 1 l) ∧ Hid (1 ≤ prevAt l k) ∧ Below w.heap.size w wr) (fun i _ => n - (intOf i).toNat)
    case atStart => exact ⟨0, Nat.zero_le _, rfl, hid (by simp [prevAt]), hid (by simp [prevAt]), Below.refl _ _⟩
    case round =>
      obtain ⟨k, hk, rfl, hc, hp, hb⟩ := hrel
      by_cases hlt : k < n
      · obtain ⟨b, o, rfl, hbo, c1, c2⟩ := H.out.at_ hlt
        have d1 := (hb.cell (p := ⟨b, o + k * 2, none⟩) hbo).trans c1
        have d2 := (hb.cell (p := ⟨b, o + k * 2 + 1, none⟩) hbo).trans c2
        clear c1 c2
        have HQ : Hid (k < l.length) := hid (by rw [← HL.out]; exact hlt)
        obtain ⟨id, hid'⟩ : ∃ x, x = (l[k]'HQ.out).1 := ⟨_, rfl⟩
        obtain ⟨at', hat'⟩ : ∃ x, x = (l[k]'HQ.out).2 := ⟨_, rfl⟩
        rw [← hid'] at d1
        rw [← hat'] at d2
        have HI := hid hid'; have HA := hid hat'; clear hid' hat'
        have bad : ¬ (0 ≤ id ∧ id ≤ 9007199254740991 ∧ prevAt l k ≤ at' ∧ at' ≤ 9007199254740991) → (2 : Int) = Gr.check l := fun hn =>
          chk_bad HQ.out hc.out (by rw [← HL.out]; exact hbig) (by rw [← HI.out, ← HA.out]; exact hn)
        have HBAD := hid bad; clear bad
        by_cases a1 : id < 0
        · have b1 : decide (id < 0) = true := decide_eq_true a1
          go_wp2
          go_quiet (fail)
          go_wp2
          go_ret
          exact ⟨ret_int (HBAD.out (by omega)), (below_drewN (hb.alloc hb.size _) _)⟩
        have b1 : decide (id < 0) = false := decide_eq_false a1
        by_cases a2 : 9007199254740991 < id
        · have b2 : decide (9007199254740991 < id) = true := decide_eq_true a2
          go_wp2
          go_quiet (fail)
          go_wp2
          go_ret
          exact ⟨ret_int (HBAD.out (by omega)), (below_drewN (hb.alloc hb.size _) _)⟩
        have b2 : decide (9007199254740991 < id) = false := decide_eq_false a2
        by_cases a3 : at' < 1
        · have b3 : decide (at' < 1) = true := decide_eq_true a3
          go_wp2
          go_quiet (fail)
          go_wp2
          go_ret
          exact ⟨ret_int (HBAD.out (by have := hp.out; omega)), (below_drewN (hb.alloc hb.size _) _)⟩
        have b3 : decide (at' < 1) = false := decide_eq_false a3
        by_cases a4 : 9007199254740991 < at'
        · have b4 : decide (9007199254740991 < at') = true := decide_eq_true a4
          go_wp2
          go_quiet (fail)
          go_wp2
          go_ret
          exact ⟨ret_int (HBAD.out (by omega)), (below_drewN (hb.alloc hb.size _) _)⟩
        have b4 : decide (9007199254740991 < at') = false := decide_eq_false a4
        by_cases a5 : 0 < k
        · obtain ⟨b', o', e', hbo', c1, c2⟩ := H.out.at_ (k := k - 1) (by omega)
          simp only [Option.some.injEq, Addr.mk.injEq, and_true] at e'
          obtain ⟨rfl, rfl⟩ := e'
          have d3 := (hb.cell (p := ⟨b, o + (k - 1) * 2 + 1, none⟩) hbo).trans c2
          clear c1 c2
          have hk1 : k - 1 < l.length := by have := HQ.out; omega
          obtain ⟨pr, hpr⟩ : ∃ x, x = (l[k - 1]'hk1).2 := ⟨_, rfl⟩
          rw [← hpr] at d3
          have HP : Hid (prevAt l k = pr) := hid (by rw [prevAt_pos a5 hk1, hpr])
          clear hpr
          have b5 : decide (0 < k) = true := decide_eq_true a5
          have b5' : decide ((0 : Int) < (k : Int)) = true := decide_eq_true (by omega)
          have e2 : 0 ≤ (k : Int) - 1 := by omega
          have e4 : (k : Int) - 1 < (n : Int) := by omega
          have d4 : (wr.alloc (.cells #[.int .i64 id, .int .i64 at'] 24)).cell? ⟨b, o + (k - 1) * 2 + 1, none⟩ = some (.int .i64 pr) := (World.cell?_alloc_lt _ _ _ (by have := hb.size; exact Nat.lt_of_lt_of_le hbo this)).trans d3
          have e5 : 1 ≤ (k : Int) := by omega
          have e6 : 1 ≤ k := a5
          have e7 : (k : Int) < (n : Int) + 1 := by omega
          have e8 : k < n + 1 := by omega
          have e3 : ((k : Int) - 1).toNat = k - 1 := by omega
          have e1 : IntKind.i64.wrap ((k : Int) - 1) = (k : Int) - 1 := IntWalk.i64_in _ (by omega)
          by_cases a6 : at' < pr
          · have b6 : decide (at' < pr) = true := decide_eq_true a6
            go_wp2
            go_quiet (fail)
            go_wp2
            go_ret
            exact ⟨ret_int (HBAD.out (by rw [HP.out]; omega)), (below_drewN (hb.alloc hb.size _) _)⟩
          have b6 : decide (at' < pr) = false := decide_eq_false a6
          go_wp2
          go_quiet (fail)
          go_wp2
          go_roundw
          case rel => exact rround hc HQ HI HA (by omega) (by rw [HP.out]; omega) (by omega) (by omega) hlt (below_drewN (hb.alloc hb.size _) _)
          case measure => simp [intOf]; omega
        · have b5 : decide (0 < k) = false := decide_eq_false a5
          have b5' : decide ((0 : Int) < (k : Int)) = false := decide_eq_false (by omega)
          go_wp2
          go_quiet (fail)
          go_wp2
          go_roundw
          case rel => exact rround hc HQ HI HA (by omega) (by rw [prevAt_zero a5]; omega) (by omega) (by omega) hlt (below_drewN (hb.alloc hb.size _) _)
          case measure => simp [intOf]; omega
      · go_wp2
        go_ret
        exact ⟨ret_int (chk_end hc.out (by rw [← HL.out]; omega) (by rw [← HL.out]; exact hbig)), hb⟩
  · go_enter Try.func16, Try.ntmps16
    go_wp2
    go_ret
    exact ⟨ret_int (by unfold Gr.check; rw [← HL.out, if_pos (by omega)]), Below.refl _ _⟩
end Go.Proofs.Ytkkbgohijokbhaa
