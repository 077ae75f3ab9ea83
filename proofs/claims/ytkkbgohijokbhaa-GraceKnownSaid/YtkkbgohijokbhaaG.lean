/- segs.Next; the reference's Copy, Next, Same; EqInts. -/
import Derived.Test.YtkkbgohijokbhaaF
namespace Go.Proofs.Ytkkbgohijokbhaa
open Go.RowKit

theorem next_zero {l : List Gr.Rec} (h : Gr.check l ≠ 0) : Gr.next l = 0 := by unfold Gr.next; rw [if_pos h]
theorem next_nil : Gr.next [] = 0 := by rfl
theorem next_head {l : List Gr.Rec} (h : Gr.check l = 0) (hl : 0 < l.length) : Gr.next l = (l[0]).2 := by
  unfold Gr.next
  rw [if_neg (by simp [h])]
  cases l with
  | nil => simp at hl
  | cons x l => rfl

set_option maxHeartbeats 800000 in
theorem next_any (A : Option Addr) (n c : Nat) (l : List Gr.Rec) (w : World) (h : RD w A n l) (hm : n ≤ maxLen) :
    Calls Try.prog 17 #[.slice A n c] w fun e w' => e = .returned (.int .i64 (Gr.next l)) ∧ Below w.heap.size w w' := by
  have H := hid h; have HL := hid h.1
  have HM := hid hm
  unfold maxLen at hm
  by_cases hn : n = 0
  · subst hn
    have HE : Hid (l = []) := hid (List.eq_nil_of_length_eq_zero h.1.symm)
    clear h
    go_enter Try.func17, Try.ntmps17
    go_wp2_with fail
    go_ret
    exact ⟨ret_int (by rw [HE.out]; rfl), Below.refl _ _⟩
  · have hz : ((n : Int) == 0) = false := by rw [beq_eq_false_iff_ne]; omega
    have hpos : 0 < n := by omega
    have HN := hid hn; clear hn
    rcases Gr.check_vals l with h0 | h0 | h0
    · obtain ⟨b, o, rfl, hbo, c1, c2⟩ := h.at_ hpos
      have HNX : Hid (Gr.next l = (l[0]'(HL.out ▸ hpos)).2) := hid (next_head h0 (HL.out ▸ hpos))
      simp only [Nat.zero_mul, Nat.add_zero] at c2
      obtain ⟨X, hX⟩ : ∃ X, X = (l[0]'(HL.out ▸ hpos)).2 := ⟨_, rfl⟩
      rw [← hX] at c2
      have HX := hid hX; clear hX c1
      have H0 := hid h0; clear h h0
      go_enter Try.func17, Try.ntmps17
      go_wp2_with fail
      refine (check_at 0 _ n c l _ H.out HM.out H0.out).mono ?_
      rintro e w1 ⟨rfl, hb⟩
      have c3 := (hb.cell (p := ⟨b, o + 1, none⟩) hbo).trans c2
      have HB := hid hb; clear hb
      go_wp2_with fail
      go_ret
      exact ⟨ret_int (by rw [HNX.out, ← HX.out]), HB.out⟩
    all_goals
      have HA := hid (next_zero (l := l) (by rw [h0]; decide))
      have H0 := hid h0; clear h h0
      go_enter Try.func17, Try.ntmps17
      go_wp2_with fail
      refine (check_at _ A n c l _ H.out HM.out H0.out).mono ?_
      rintro e w1 ⟨rfl, hb⟩
      have HB := hid hb; clear hb
      go_wp2_with fail
      go_ret
      exact ⟨ret_int HA.out.symm, HB.out⟩

set_option maxHeartbeats 800000 in
theorem rnext_any (A : Option Addr) (n c : Nat) (l : List Gr.Rec) (w : World) (h : RD w A n l) (hm : n ≤ maxLen) :
    Calls Try.prog 18 #[.slice A n c] w fun e w' => e = .returned (.int .i64 (Gr.next l)) ∧ Below w.heap.size w w' := by
  have H := hid h; have HL := hid h.1
  have HM := hid hm
  unfold maxLen at hm
  rcases Gr.check_vals l with h0 | h0 | h0
  · by_cases hn : n = 0
    · subst hn
      have HE : Hid (l = []) := hid (List.eq_nil_of_length_eq_zero h.1.symm)
      have H0 := hid h0
      clear h h0
      go_enter Try.func18, Try.ntmps18
      go_wp2_with fail
      refine (rcheck_at 0 _ 0 c l _ H.out HM.out H0.out).mono ?_
      rintro e w1 ⟨rfl, hb⟩
      have HB := hid hb; clear hb
      go_wp2_with fail
      go_ret
      exact ⟨ret_int (by rw [HE.out]; rfl), HB.out⟩
    · have hz : ((n : Int) == 0) = false := by rw [beq_eq_false_iff_ne]; omega
      have hpos : 0 < n := by omega
      have HN := hid hn; clear hn
      obtain ⟨b, o, rfl, hbo, c1, c2⟩ := h.at_ hpos
      have HNX : Hid (Gr.next l = (l[0]'(HL.out ▸ hpos)).2) := hid (next_head h0 (HL.out ▸ hpos))
      simp only [Nat.zero_mul, Nat.add_zero] at c2
      obtain ⟨X, hX⟩ : ∃ X, X = (l[0]'(HL.out ▸ hpos)).2 := ⟨_, rfl⟩
      rw [← hX] at c2
      have HX := hid hX; clear hX c1
      have H0 := hid h0; clear h h0
      go_enter Try.func18, Try.ntmps18
      go_wp2_with fail
      refine (rcheck_at 0 _ n c l _ H.out HM.out H0.out).mono ?_
      rintro e w1 ⟨rfl, hb⟩
      have c3 := (hb.cell (p := ⟨b, o + 1, none⟩) hbo).trans c2
      have HB := hid hb; clear hb
      go_wp2_with fail
      go_ret
      exact ⟨ret_int (by rw [HNX.out, ← HX.out]), HB.out⟩
  all_goals
    have HA := hid (next_zero (l := l) (by rw [h0]; decide))
    have H0 := hid h0; clear h h0
    go_enter Try.func18, Try.ntmps18
    go_wp2_with fail
    refine (rcheck_at _ A n c l _ H.out HM.out H0.out).mono ?_
    rintro e w1 ⟨rfl, hb⟩
    have HB := hid hb; clear hb
    go_wp2_with fail
    go_ret
    exact ⟨ret_int HA.out.symm, HB.out⟩

set_option maxHeartbeats 800000 in
theorem copy_any (A : Option Addr) (n c : Nat) (l : List Gr.Rec) (w : World) (h : RD w A n l) (hm : n ≤ 1048576) :
    Calls Try.prog 12 #[.slice A n c] w fun e w' => ∃ v, e = .returned v ∧ w'.ownsRow w.heap.size 24 2 v n (cellsR l) ∧ Below w.heap.size w w' := by
  obtain ⟨i0, hi0, hz0, hz1, hz2⟩ := info_parts info24
  have H := hid h; clear h
  go_enter Try.func12, Try.ntmps12
  go_wp2_with (at_builtin; refine wpList_append_any _ rfl (.tmp 4) (.tmp 5) 22 rfl w.heap.size 24 i0 _ 2 16 Try.underlying22 hi0 hz0 hz1 hz2 rfl (by decide) _ 0 [] rfl (World.ownsRow_nil _ _ _ _) A n c (cellsR l) rfl H.out.2 (cellsR_one _) (by unfold maxLen; omega) (by omega) (Nat.le_refl _) ?_)
  intro v2 w2 hown2 hg2 _
  have hb2 : Below w.heap.size w w2 := (Below.refl _ _).grown hg2 (Nat.le_refl _) (by simp [Value.ownBlock])
  have HO2 := hid hown2; have HB2 := hid hb2; clear hown2 hb2 hg2
  go_wp2
  go_ret
  exact ⟨_, rfl, by simpa using HO2.out, HB2.out⟩
theorem IsRow.of_own {w : World} {base n : Nat} {v : Value} {l : List Gr.Rec} (h : w.ownsRow base 24 2 v n (cellsR l)) : IsRow w base v l := by
  obtain ⟨A, c, rfl, h1, h2⟩ := own_slice h
  exact ⟨A, n, c, rfl, h1, h2, OwnR.of_own h⟩
end Go.Proofs.Ytkkbgohijokbhaa
