/- slices.Concat of three rows of bytes; guard.laid. -/
import Derived.Test.YtfnnfnklhejlmaaB
namespace Go.Proofs.Ytfnnfnklhejlmaa
open Go.RowKit

set_option maxHeartbeats 1600000 in
theorem concat_three (g : Nat) (A B D : Option Addr) (n c m d q p : Nat) (xs ys zs : List Int) (w : World) (hg0 : w.cell? ⟨g, 0, none⟩ = some (.slice A n c)) (hg1 : w.cell? ⟨g, 1, none⟩ = some (.slice B m d)) (hg2 : w.cell? ⟨g, 2, none⟩ = some (.slice D q p))
    (hx : RB w A n xs) (hy : RB w B m ys) (hz : RB w D q zs) (hn : n + m + q ≤ 1048576) :
    Calls Try.prog 27 #[.slice (some ⟨g, 0, none⟩) 3 3] w fun e w' => ∃ v, e = .returned v ∧ IsB w' w.heap.size v (xs ++ ys ++ zs) ∧ Below w.heap.size w w' := by
  obtain ⟨i0, hi0, hz0, hz1, hz2⟩ := info_parts info5
  have hgl : g < w.heap.size := World.block_lt_of_cell? w _ hg0
  have HX := hid hx; have HY := hid hy; have HZ := hid hz; clear hx hy hz
  go_enter Try.func27, Try.ntmps27
  go_wp2
  refine wp_loop_rounds 4 ?_
  rw [rounds_succ]
  go_wp2
  rw [rounds_succ]
  go_wp2
  rw [rounds_succ]
  go_wp2
  rw [rounds_succ]
  go_wp2_with fail
  rw [show ((n : Int) + (m : Int) + (q : Int)) = ((n + m + q : Nat) : Int) from by omega]
  refine (grow_nil (n + m + q) _ (by omega) (by omega)).mono ?_
  rintro e w1 ⟨v, rfl, hown, hb1⟩
  obtain ⟨A1, c1, rfl, _, _⟩ := own_slice hown
  have e0 := (hb1.cell (p := ⟨g, 0, none⟩) hgl).trans hg0
  have HE1 := hid ((hb1.cell (p := ⟨g, 1, none⟩) hgl).trans hg1)
  have HE2 := hid ((hb1.cell (p := ⟨g, 2, none⟩) hgl).trans hg2)
  have HO := hid hown; have HB := hid hb1; clear hown hb1 hg0 hg1 hg2
  go_wp2_with fail
  refine wp_loop_rounds 4 ?_
  rw [rounds_succ]
  go_wp2_with (at_builtin; refine wpList_append_any _ rfl (.tmp 31) (.tmp 32) 22 rfl w.heap.size 5 i0 _ 1 1 Try.underlying22 hi0 hz0 hz1 hz2 rfl (by decide) _ 0 [] rfl HO.out A n c (cellsU xs) rfl (HX.out.below HB.out).2 (cellsU_one _) (by unfold maxLen; omega) (by omega) HB.out.size ?_)
  intro v2 w2 hown2 hg2 _
  have hb2 : Below w.heap.size w w2 := below_own HB.out HO.out hg2 HB.out.size (Nat.le_refl _)
  have e2 := (hb2.cell (p := ⟨g, 1, none⟩) hgl).trans ((HB.out.cell (p := ⟨g, 1, none⟩) hgl).symm.trans HE1.out)
  have HO2 := hid hown2; have HB2 := hid hb2; clear hown2 hb2 hg2 e0
  go_wp2
  rw [rounds_succ]
  go_wp2_with (at_builtin; refine wpList_append_any _ rfl (.tmp 31) (.tmp 32) 22 rfl w.heap.size 5 i0 _ 1 1 Try.underlying22 hi0 hz0 hz1 hz2 rfl (by decide) _ n (cellsU xs) rfl HO2.out B m d (cellsU ys) rfl (HY.out.below HB2.out).2 (cellsU_one _) (by unfold maxLen; omega) (by omega) HB2.out.size ?_)
  intro v3 w3 hown3 hg3 _
  have hb3 : Below w.heap.size w w3 := below_own HB2.out HO2.out hg3 HB2.out.size (Nat.le_refl _)
  have e3 := (hb3.cell (p := ⟨g, 2, none⟩) hgl).trans ((HB.out.cell (p := ⟨g, 2, none⟩) hgl).symm.trans HE2.out)
  have HO3 := hid hown3; have HB3 := hid hb3; clear hown3 hb3 hg3 e2
  go_wp2
  rw [rounds_succ]
  go_wp2_with (at_builtin; refine wpList_append_any _ rfl (.tmp 31) (.tmp 32) 22 rfl w.heap.size 5 i0 _ 1 1 Try.underlying22 hi0 hz0 hz1 hz2 rfl (by decide) _ (n + m) (cellsU xs ++ cellsU ys) rfl HO3.out D q p (cellsU zs) rfl (HZ.out.below HB3.out).2 (cellsU_one _) (by unfold maxLen; omega) (by omega) HB3.out.size ?_)
  intro v4 w4 hown4 hg4 _
  have hb4 : Below w.heap.size w w4 := below_own HB3.out HO3.out hg4 HB3.out.size (Nat.le_refl _)
  have HO4 := hid hown4; have HB4 := hid hb4; clear hown4 hb4 hg4 e3
  go_wp2
  rw [rounds_succ]
  go_wp2
  go_ret
  exact ⟨_, rfl, IsB.of_own (by rw [cellsU_append, cellsU_append]; simpa using HO4.out), HB4.out⟩
end Go.Proofs.Ytfnnfnklhejlmaa
