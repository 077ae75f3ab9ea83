/- the reference's Add and Ready. -/
import Derived.Test.YtkkbgohijokbhaaI
namespace Go.Proofs.Ytkkbgohijokbhaa
open Go.RowKit

theorem bcell {W w1 : World} (hb : Below W.heap.size W w1) : (∀ b o, b < W.heap.size → w1.cell? ⟨b, o, none⟩ = W.cell? ⟨b, o, none⟩) ∧ (∀ b o, b < W.heap.size → w1.frozen? ⟨b, o, none⟩ = W.frozen? ⟨b, o, none⟩) :=
  ⟨fun b o h => hb.cell (p := ⟨b, o, none⟩) h, fun b o h => hb.frozen (p := ⟨b, o, none⟩) h⟩
theorem radd_ok {l : List Gr.Rec} {x : Gr.Rec} (h : Gr.check l = 0) (hl : ¬ l.length = 256) : Gr.check (l ++ [x]) = 0 ∨ Gr.check (l ++ [x]) = 2 := by
  rcases Gr.check_vals (l ++ [x]) with h0 | h0 | h0
  · exact .inl h0
  · exact .inr h0
  · have := len_of_check h
    unfold Gr.check at h0
    rw [if_neg (by simp; omega)] at h0
    split at h0 <;> omega

set_option maxHeartbeats 1600000 in
theorem radd_any (A : Option Addr) (n c : Nat) (l : List Gr.Rec) (i t : Int) (w : World) (h : RD w A n l) (hm : n ≤ maxLen) :
    Calls Try.prog 14 #[.slice A n c, .agg #[.int .i64 i, .int .i64 t]] w (AddTo l (i, t) w) := by
  obtain ⟨i0, hi0, hz0, hz1, hz2⟩ := info_parts info24
  have H := hid h; have HL := hid h.1; clear h
  have HM := hid hm
  unfold maxLen at hm
  by_cases hz : Gr.check l = 0
  · have hlen := len_of_check hz
    have hn256 : n ≤ 256 := by rw [HL.out]; exact hlen
    have HZ := hid hz; clear hz hlen
    by_cases hf : n = 256
    · subst hf
      go_enter Try.func14, Try.ntmps14
      go_wp2_with fail
      refine (rcheck_at 0 A 256 c l _ (H.out.alloc _) HM.out HZ.out).mono ?_
      rintro e w1 ⟨rfl, hb⟩
      have HB := hid hb; clear hb
      go_wp2_with fail
      go_ret2
      exact ⟨_, by rw [add_full HZ.out HL.out.symm]; rfl, by rw [add_full HZ.out HL.out.symm]; exact IsRow.nil _ _, ((Below.refl w.heap.size w).alloc (Nat.le_refl _) _).trans (HB.out.mono (by simp))⟩
    · have hne : ((n : Int) == 256) = false := by rw [beq_eq_false_iff_ne]; omega
      have hF := hid hf; clear hf
      go_enter Try.func14, Try.ntmps14
      go_wp2_with fail
      refine (rcheck_at 0 A n c l _ (H.out.alloc _) HM.out HZ.out).mono ?_
      rintro e w1 ⟨rfl, hb⟩
      have HB := hid hb
      have hc0 := hb.cell (p := ⟨w.heap.size, 0, none⟩) (by simp)
      have hc1 := hb.cell (p := ⟨w.heap.size, 1, none⟩) (by simp)
      simp [go_sem] at hc0 hc1
      have hw1 : w.heap.size < w1.heap.size := by have := hb.size; simp at this; omega
      have hwn : ¬ w.heap.size = w1.heap.size := by omega
      have HA := hid ((H.out.alloc (.cells #[.int .i64 i, .int .i64 t] 24)).below hb)
      have HB1 := hid (((Below.refl w.heap.size w).alloc (Nat.le_refl _) (.cells #[.int .i64 i, .int .i64 t] 24)).trans (hb.mono (by simp)))
      clear hb
      go_wp2_with fail
      go_region_law (first
        | (go_simp; go_at_call 12; refine (copy_any A n c l _ (by repeat (first | exact HA.out | refine RD.alloc ?_ _ | refine RD.drew ?_)) (by omega)).mono ?_; rintro e w3 ⟨v1, rfl, ho1, hb1⟩; have HO := hid (own_mono (base' := w1.heap.size) ho1 (by simp)); have HB3 := hid hb1; have hs3 := hb1.size; obtain ⟨hcb, hfb⟩ := bcell hb1; have hc0' := hcb w.heap.size 0 (by simp; omega); have hc1' := hcb w.heap.size 1 (by simp; omega); clear ho1 hb1)
        | (refine step_append_any _ rfl (.tmp 17) (.tmp 19) 22 rfl w1.heap.size 24 i0 _ 2 16 Try.underlying22 hi0 hz0 hz1 hz2 rfl (by decide) _ n (cellsR l) rfl (by repeat (first | exact HO.out | refine World.ownsRow.alloc ?_ _ | refine World.ownsRow.drew ?_)) _ 1 1 (cellsR [(i, t)]) rfl (by refine (rd_one _ _ _ (i, t) ?_ ?_ ?_).2; all_goals (first | (simp [go_sem, hcb]; done) | (simp [go_sem] at hs3 ⊢; omega))) (cellsR_one _) (by unfold maxLen; omega) (by omega) (by simp [go_sem] at hs3 ⊢; omega) ?_; intro v2 w2 hown2 hg2 _))
      all_goals
        have hb3 : Below w.heap.size w w3 := by
          first
            | exact HB1.out.drew.trans (HB3.out.mono (Nat.le_of_lt hw1))
            | exact ((HB1.out.alloc (Nat.le_of_lt hw1) _).drew).trans (HB3.out.mono (by simp; omega))
        have hb4 : Below w.heap.size w w2 := by
          first
            | exact (hb3.alloc (by simp at hs3; omega) _).grown hg2 (by simp at hs3 ⊢; omega) (fun j hj => by have := own_lt HO.out j hj; omega)
            | exact hb3.grown hg2 (by simp at hs3 ⊢; omega) (fun j hj => by have := own_lt HO.out j hj; omega)
        obtain ⟨A2, c2, rfl, hle2, hm2⟩ := own_slice hown2
        have HR2 : Hid (OwnR w2 w.heap.size A2 (n + 1) (l ++ [(i, t)])) := hid (OwnR.mono (OwnR.of_own (by rw [cellsR_append]; exact hown2)) (by omega))
        have HB4 := hid hb4; have HM2 := hid hm2
        have HN2 : Hid (n + 1 ≤ maxLen) := hid (Nat.le_trans hle2 hm2)
        clear hb3 hb4 hown2 hg2 hs3 hc0 hc1 hc0' hc1' hm2
        have hne' : ¬ l.length = 256 := by rw [← HL.out]; exact hF.out
        have HNE := hid hne'; clear hne'
        go_wp2_with fail
        rcases radd_ok (x := (i, t)) HZ.out HNE.out with h0 | h0
        · refine (rcheck_at 0 A2 (n + 1) c2 _ _ HR2.out.rd HN2.out h0).mono ?_
          have H0 := hid h0; clear h0
          rintro e w4 ⟨rfl, hb5⟩
          have HB5 := hid hb5; clear hb5
          go_wp2_with fail
          go_ret2
          exact ⟨_, by rw [add_ok HZ.out HNE.out H0.out]; rfl, by rw [add_ok HZ.out HNE.out H0.out]; exact ⟨A2, n + 1, c2, rfl, hle2, HM2.out, HR2.out.below HB5.out⟩, below_trans' HB4.out HB5.out⟩
        · refine (rcheck_at 2 A2 (n + 1) c2 _ _ HR2.out.rd HN2.out h0).mono ?_
          have H0 := hid h0; clear h0
          rintro e w4 ⟨rfl, hb5⟩
          have HB5 := hid hb5; clear hb5
          go_wp2_with fail
          go_ret2
          have ha := add_off HZ.out HNE.out (by rw [H0.out]; decide)
          exact ⟨_, by rw [ha, H0.out]; rfl, by rw [ha]; exact IsRow.nil _ _, below_trans' HB4.out HB5.out⟩
  · rcases Gr.check_vals l with h0 | h0 | h0
    · exact absurd h0 hz
    all_goals
      have HA := hid (add_bad (x := (i, t)) hz)
      have H0 := hid h0
      clear hz h0
      go_enter Try.func14, Try.ntmps14
      go_wp2_with fail
      refine (rcheck_at _ A n c l _ (H.out.alloc _) HM.out H0.out).mono ?_
      rintro e w1 ⟨rfl, hb⟩
      have HB := hid hb; clear hb
      go_wp2_with fail
      go_ret2
      exact ⟨_, by rw [HA.out, H0.out]; rfl, by rw [HA.out]; exact IsRow.nil _ _, ((Below.refl w.heap.size w).alloc (Nat.le_refl _) _).trans (HB.out.mono (by simp))⟩
end Go.Proofs.Ytkkbgohijokbhaa
