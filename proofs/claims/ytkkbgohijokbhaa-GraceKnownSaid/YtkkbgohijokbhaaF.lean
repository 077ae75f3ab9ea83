/- segs.Add, segs.Next; the reference's Copy, Next, Same. -/
import Derived.Test.YtkkbgohijokbhaaE
namespace Go.Proofs.Ytkkbgohijokbhaa
open Go.RowKit

theorem IsRow.nil (w : World) (base : Nat) : IsRow w base (.slice none 0 0) [] := ⟨none, 0, 0, rfl, Nat.le_refl _, by simp [maxLen], OwnR.nil w base none⟩
theorem IsRow.below {w w1 : World} {base : Nat} {v : Value} {l : List Gr.Rec} (h : IsRow w base v l) (hb : Below w.heap.size w w1) : IsRow w1 base v l := by
  obtain ⟨A, N, c, rfl, h1, h2, h3⟩ := h
  exact ⟨A, N, c, rfl, h1, h2, h3.below hb⟩

/-- the contract of Check with its answer as a literal of one's own -/
theorem check_at (E : Int) (A : Option Addr) (n c : Nat) (l : List Gr.Rec) (w : World) (h : RD w A n l) (hm : n ≤ maxLen) (hE : Gr.check l = E) :
    Calls Try.prog 15 #[.slice A n c] w fun e w' => e = .returned (.int .i64 E) ∧ Below w.heap.size w w' := by
  subst hE; exact check_any A n c l w h hm
theorem rcheck_at (E : Int) (A : Option Addr) (n c : Nat) (l : List Gr.Rec) (w : World) (h : RD w A n l) (hm : n ≤ maxLen) (hE : Gr.check l = E) :
    Calls Try.prog 16 #[.slice A n c] w fun e w' => e = .returned (.int .i64 E) ∧ Below w.heap.size w w' := by
  subst hE; exact rcheck_any A n c l w h hm

theorem len_of_check {l : List Gr.Rec} (h : Gr.check l = 0) : l.length ≤ 256 := (Gr.check_zero.1 h).1

/-- what Add comes to -/
def AddTo (l : List Gr.Rec) (x : Gr.Rec) (w : World) (e : Ending) (w' : World) : Prop :=
  ∃ v, e = .returned (.tuple #[v, .int .i64 (Gr.add l x).2]) ∧ IsRow w' w.heap.size v (Gr.add l x).1 ∧ Below w.heap.size w w'

theorem add_bad {l : List Gr.Rec} {x : Gr.Rec} (h : Gr.check l ≠ 0) : Gr.add l x = ([], Gr.check l) := by unfold Gr.add; rw [if_pos h]
theorem add_full {l : List Gr.Rec} {x : Gr.Rec} (h : Gr.check l = 0) (hl : l.length = 256) : Gr.add l x = ([], 5) := by unfold Gr.add; rw [if_neg (by simp [h]), if_pos hl]
theorem add_off {l : List Gr.Rec} {x : Gr.Rec} (h : Gr.check l = 0) (hl : ¬ l.length = 256) (h2 : Gr.check (l ++ [x]) ≠ 0) : Gr.add l x = ([], Gr.check (l ++ [x])) := by unfold Gr.add; rw [if_neg (by simp [h]), if_neg hl, if_pos h2]
theorem add_ok {l : List Gr.Rec} {x : Gr.Rec} (h : Gr.check l = 0) (hl : ¬ l.length = 256) (h2 : Gr.check (l ++ [x]) = 0) : Gr.add l x = (l ++ [x], 0) := by unfold Gr.add; rw [if_neg (by simp [h]), if_neg hl, if_neg (by simp [h2])]

/-- one record in a block of its own -/
theorem rd_one (w : World) (g o : Nat) (x : Gr.Rec) (hb : g < w.heap.size) (h0 : w.cell? ⟨g, o, none⟩ = some (.int .i64 x.1)) (h1 : w.cell? ⟨g, o + 1, none⟩ = some (.int .i64 x.2)) : RD w (some ⟨g, o, none⟩) 1 [x] := by
  refine ⟨rfl, rfl, fun _ => ⟨g, o, rfl, hb, fun j u hu => ?_⟩⟩
  match j, hu with
  | 0, hu => simp [cellsR] at hu; subst hu; exact h0
  | 1, hu => simp [cellsR] at hu; subst hu; exact h1
  | j + 2, hu => simp [cellsR] at hu

set_option maxHeartbeats 800000 in
theorem add_any (A : Option Addr) (n c : Nat) (l : List Gr.Rec) (i t : Int) (w : World) (h : RD w A n l) (hm : n ≤ maxLen) :
    Calls Try.prog 13 #[.slice A n c, .agg #[.int .i64 i, .int .i64 t]] w (AddTo l (i, t) w) := by
  have H := hid h; have HL := hid h.1; clear h
  have HM := hid hm
  unfold maxLen at hm
  by_cases hz : Gr.check l = 0
  · have hlen := len_of_check hz
    have hn256 : n ≤ 256 := by rw [HL.out]; exact hlen
    have HZ := hid hz; clear hz hlen
    by_cases hf : n = 256
    · subst hf
      go_enter Try.func13, Try.ntmps13
      go_wp2_with fail
      refine (check_at 0 A 256 c l _ (H.out.alloc _) HM.out HZ.out).mono ?_
      rintro e w1 ⟨rfl, hb⟩
      have HB := hid hb; clear hb
      go_wp2_with fail
      go_ret2
      exact ⟨_, by rw [add_full HZ.out HL.out.symm]; rfl, by rw [add_full HZ.out HL.out.symm]; exact IsRow.nil _ _, ((Below.refl w.heap.size w).alloc (Nat.le_refl _) _).trans (HB.out.mono (by simp))⟩
    · have hne : ((n : Int) == 256) = false := by rw [beq_eq_false_iff_ne]; omega
      have hF := hid hf; clear hf
      go_enter Try.func13, Try.ntmps13
      go_wp2_with fail
      refine (check_at 0 A n c l _ (H.out.alloc _) HM.out HZ.out).mono ?_
      rintro e w1 ⟨rfl, hb⟩
      have HB := hid hb
      have hc0 := hb.cell (p := ⟨w.heap.size, 0, none⟩) (by simp)
      have hc1 := hb.cell (p := ⟨w.heap.size, 1, none⟩) (by simp)
      simp [go_sem] at hc0 hc1
      have hw1 : w.heap.size < w1.heap.size := by have := hb.size; simp at this; omega
      clear hb
      go_wp2_with fail
      refine (row_any A (some ⟨w1.heap.size, 0, none⟩) n c 1 1 l [(i, t)] _ ((H.out.alloc _).below HB.out |>.alloc _) (rd_one _ _ _ _ (by simp) (by simp [go_sem]) (by simp [go_sem])) (by omega)).mono ?_
      rintro e w2 ⟨v, rfl, hv, hb2⟩
      obtain ⟨A2, N2, c2, rfl, hle2, hm2, hr2⟩ := hv
      have HR2 := hid (hr2.mono (base' := w.heap.size) (by simp; omega)); have HB2 := hid hb2; have HM2 := hid hm2; clear hr2 hb2 hm2
      have hbel : Below w.heap.size w w2 := (((Below.refl w.heap.size w).alloc (Nat.le_refl _) _).trans (HB.out.mono (by simp))).alloc (by omega) _ |>.trans (HB2.out.mono (by simp; omega))
      have HBEL := hid hbel; clear hbel hc0 hc1
      have hN2 : N2 ≤ maxLen := Nat.le_trans hle2 HM2.out
      have HN2 := hid hN2; clear hN2
      go_wp2_with fail
      rcases Gr.check_vals (l ++ [(i, t)]) with h0 | h0 | h0
      · refine (check_at 0 A2 N2 c2 _ _ HR2.out.rd HN2.out h0).mono ?_
        have H0 := hid h0; clear h0
        rintro e w3 ⟨rfl, hb3⟩
        have HB3 := hid hb3; clear hb3
        go_wp2_with fail
        go_ret2
        have hne' : ¬ l.length = 256 := by rw [← HL.out]; exact hF.out
        exact ⟨_, by rw [add_ok HZ.out hne' H0.out]; rfl, by rw [add_ok HZ.out hne' H0.out]; exact ⟨A2, N2, c2, rfl, hle2, HM2.out, HR2.out.below HB3.out⟩, below_trans' HBEL.out HB3.out⟩
      all_goals
        refine (check_at _ A2 N2 c2 _ _ HR2.out.rd HN2.out h0).mono ?_
        have H0 := hid h0; clear h0
        rintro e w3 ⟨rfl, hb3⟩
        have HB3 := hid hb3; clear hb3
        go_wp2_with fail
        go_ret2
        have hne' : ¬ l.length = 256 := by rw [← HL.out]; exact hF.out
        have ha := add_off HZ.out hne' (by rw [H0.out]; decide)
        exact ⟨_, by rw [ha, H0.out]; rfl, by rw [ha]; exact IsRow.nil _ _, below_trans' HBEL.out HB3.out⟩
  · rcases Gr.check_vals l with h0 | h0 | h0
    · exact absurd h0 hz
    all_goals
      have HA := hid (add_bad (x := (i, t)) hz)
      have H0 := hid h0
      clear hz h0
      go_enter Try.func13, Try.ntmps13
      go_wp2_with fail
      refine (check_at _ A n c l _ (H.out.alloc _) HM.out H0.out).mono ?_
      rintro e w1 ⟨rfl, hb⟩
      have HB := hid hb; clear hb
      go_wp2_with fail
      go_ret2
      exact ⟨_, by rw [HA.out, H0.out]; rfl, by rw [HA.out]; exact IsRow.nil _ _, ((Below.refl w.heap.size w).alloc (Nat.le_refl _) _).trans (HB.out.mono (by simp))⟩
end Go.Proofs.Ytkkbgohijokbhaa
