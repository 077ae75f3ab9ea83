/- the reference's Ready. -/
import Derived.Test.YtkkbgohijokbhaaJ
namespace Go.Proofs.Ytkkbgohijokbhaa
open Go.RowKit

set_option maxHeartbeats 1600000 in
theorem rready_any (A : Option Addr) (n c : Nat) (l : List Gr.Rec) (d : Int) (w : World) (h : RD w A n l) (hnc : n ≤ c) (hm : n ≤ maxLen) :
    Calls Try.prog 22 #[.slice A n c, .int .i64 d] w (ReadyTo l d w) := by
  obtain ⟨i3, hi3, hz3, hs3, hb3⟩ := info_parts info3
  obtain ⟨i24, hi24, hz24, hs24, hb24⟩ := info_parts info24
  have H := hid h; have HL := hid h.1
  have HM := hid hm
  unfold maxLen at hm
  rcases Gr.check_vals l with h0 | h0 | h0
  · have hn : n ≤ 256 := by rw [HL.out]; exact len_of_check h0
    have H0 := hid h0; clear h h0
    go_enter Try.func22, Try.ntmps22
    go_wp2_with fail
    refine (rcheck_at 0 A n c l _ H.out HM.out H0.out).mono ?_
    rintro e w1 ⟨rfl, hb1⟩
    have HB1 := hid hb1
    have HA := hid (H.out.below hb1); clear hb1
    go_wp2_with fail
    go_loopw [8, 9] (fun v i wr => ∃ (k : Nat), k ≤ n ∧ i = .int .i64 k ∧ wr.ownsRow w1.heap.size 3 1 v k (cellsI ((l.take k).map (·.1))) ∧ Hid (∀ x ∈ l.take k, x.2 ≤ d) ∧ Below w1.heap.size w1 wr)
      (fun _ i _ => n - (intOf i).toNat)
    case atStart => exact ⟨0, Nat.zero_le _, rfl, World.ownsRow_nil _ _ _ _, hid (by simp), Below.refl _ _⟩
    case round =>
      obtain ⟨k, hk, rfl, hown, hall, hb⟩ := hrel
      have HO := hid hown; clear hown
      -- what stands behind the loop, at k
      have fin : ∀ hp : Gr.readyIds l d = (l.take k).map (·.1) ∧ Gr.readyRest l d = l.drop k, True := fun _ => trivial
      have hcut := cut_from 22 24 .i64 Try.underlying22 hi24 2 hs24 A n c k hk
      have hB' := rd_cut HA.out hnc k hk
      obtain ⟨B', hBB⟩ : ∃ B', B' = (if c = k then A else A.map (·.add (k * 2))) := ⟨_, rfl⟩
      rw [← hBB] at hcut hB'
      have HB' := hid hB'; clear hBB hB' fin
      by_cases hlt : k < n
      · obtain ⟨b, o, hA, hbo, c1', c2'⟩ := HA.out.at_ hlt
        subst hA
        have d1 := (hb.cell (p := ⟨b, o + k * 2, none⟩) hbo).trans c1'
        have d2 := (hb.cell (p := ⟨b, o + k * 2 + 1, none⟩) hbo).trans c2'
        clear c1' c2'
        have HKL : Hid (k < l.length) := hid (HL.out ▸ hlt)
        obtain ⟨i1, hi1⟩ : ∃ x, x = (l[k]'HKL.out).1 := ⟨_, rfl⟩
        obtain ⟨t1, ht1⟩ : ∃ x, x = (l[k]'HKL.out).2 := ⟨_, rfl⟩
        rw [← hi1] at d1; rw [← ht1] at d2
        have E1 := hid hi1; have E2 := hid ht1
        clear hi1 ht1
        by_cases hd : t1 ≤ d
        · go_wp2_with (at_builtin; refine wpList_append_any _ rfl (.tmp 28) (.tmp 34) 34 rfl w1.heap.size 3 i3 _ 1 8 Try.underlying34 hi3 hz3 hs3 hb3 rfl (by decide) _ k (cellsI ((l.take k).map (·.1))) rfl (HO.out.alloc _) _ 1 1 [.int .i64 i1] rfl (by exact reads_one _ _ _ _ (by simp) (by simp [go_sem])) (by simp [Value.oneCell']) (by unfold maxLen; omega) (by omega) (by have := hb.size; simp; omega) ?_)
          intro v2 w2 hown2 hg2 _
          have hb3 : Below w1.heap.size w1 w2 := (hb.alloc hb.size _).grown hg2 (by have := hb.size; simp; omega) (fun j hj => own_lt HO.out j hj)
          have HOW := hid hown2; have HBW := hid hb3; clear hown2 hb3 hg2 d1 d2 hcut
          go_wp2
          go_roundw
          case rel => exact ⟨k + 1, by omega, by go_num, by rw [ids_step HKL.out, ← E1.out, List.map_take]; exact HOW.out, hid (take_all_le HKL.out hall.out (by rw [← E2.out]; exact hd)), HBW.out⟩
          case measure => simp [intOf]; omega
        · have hd' : d < t1 := by omega
          clear hd
          go_wp2_with fail
          refine (copy_any B' (n - k) (c - k) (l.drop k) _ (HB'.out.below hb) (by omega)).mono ?_
          rintro e w3 ⟨u, rfl, ho3, hb3⟩
          have HO3 := hid ho3; have HB3 := hid hb3; clear ho3 hb3
          go_wp2_with fail
          go_ret3
          have hp := parted (l := l) (d := d) (k := k) (by rw [← HL.out]; exact hk) hall.out (fun _ => by rw [← E2.out]; exact hd')
          unfold ReadyTo
          rw [if_pos H0.out, hp.1, hp.2]
          exact ⟨_, _, rfl, (IsInts.of_own (own_mono HO.out HB1.out.size)).below HB3.out, (IsRow.of_own (own_mono HO3.out (Nat.le_trans HB1.out.size hb.size))), below_trans' HB1.out (below_trans' hb HB3.out)⟩
      · go_wp2_with fail
        refine (copy_any B' (n - k) (c - k) (l.drop k) _ (HB'.out.below hb) (by omega)).mono ?_
        rintro e w3 ⟨u, rfl, ho3, hb3⟩
        have HO3 := hid ho3; have HB3 := hid hb3; clear ho3 hb3
        go_wp2_with fail
        go_ret3
        have hp := parted (l := l) (d := d) (k := k) (by rw [← HL.out]; exact hk) hall.out (fun h => absurd h (by rw [← HL.out]; exact hlt))
        unfold ReadyTo
        rw [if_pos H0.out, hp.1, hp.2]
        exact ⟨_, _, rfl, (IsInts.of_own (own_mono HO.out HB1.out.size)).below HB3.out, (IsRow.of_own (own_mono HO3.out (Nat.le_trans HB1.out.size hb.size))), below_trans' HB1.out (below_trans' hb HB3.out)⟩
  all_goals
    have H0 := hid h0; clear h h0
    go_enter Try.func22, Try.ntmps22
    go_wp2_with fail
    refine (rcheck_at _ A n c l _ H.out HM.out H0.out).mono ?_
    rintro e w0 ⟨rfl, hb0⟩
    have HB0 := hid hb0; clear hb0
    go_wp2_with fail
    go_ret3
    unfold ReadyTo
    rw [if_neg (by rw [H0.out]; decide), H0.out]
    exact ⟨rfl, HB0.out⟩
end Go.Proofs.Ytkkbgohijokbhaa
