/- slices.Concat of two rows of records; segs.row. -/
import Derived.Test.YtkkbgohijokbhaaD
import Derived.LoopN
namespace Go.Proofs.Ytkkbgohijokbhaa
open Go.RowKit

theorem below_own {B : Nat} {w w1 w2 : World} {v : Value} {base : Nat} {e : TypeId} {size n : Nat} {xs : List Value} (h : Below B w w1) (ho : w1.ownsRow base e size v n xs) (hg : w1.grownBy w2 v.ownBlock) (hB : B ≤ w1.heap.size) (hb : B ≤ base) : Below B w w2 :=
  h.grown hg hB fun k hk => Nat.le_trans hb (own_lt ho k hk)

set_option maxHeartbeats 800000 in
theorem concat_two (g : Nat) (A B : Option Addr) (n c m d : Nat) (xs ys : List Gr.Rec) (w : World) (hg0 : w.cell? ⟨g, 0, none⟩ = some (.slice A n c)) (hg1 : w.cell? ⟨g, 1, none⟩ = some (.slice B m d))
    (hx : RD w A n xs) (hy : RD w B m ys) (hn : n + m ≤ 1048576) :
    Calls Try.prog 60 #[.slice (some ⟨g, 0, none⟩) 2 2] w fun e w' => ∃ v, e = .returned v ∧ IsRow w' w.heap.size v (xs ++ ys) ∧ Below w.heap.size w w' := by
  obtain ⟨i0, hi0, hz0, hz1, hz2⟩ := info_parts info24
  have hgl : g < w.heap.size := World.block_lt_of_cell? w _ hg0
  have HX := hid hx; have HY := hid hy; clear hx hy
  go_enter Try.func60, Try.ntmps60
  go_wp2
  refine wp_loop_rounds 3 ?_
  rw [rounds_succ]
  go_wp2
  rw [rounds_succ]
  go_wp2
  rw [rounds_succ]
  go_wp2_with fail
  rw [show ((n : Int) + (m : Int)) = ((n + m : Nat) : Int) from by omega]
  refine (grow_nil (n + m) _ (by omega) (by omega)).mono ?_
  rintro e w1 ⟨v, rfl, hown, hb1⟩
  obtain ⟨A1, c1, rfl, _, _⟩ := own_slice hown
  have e0 := (hb1.cell (p := ⟨g, 0, none⟩) hgl).trans hg0
  have e1 := (hb1.cell (p := ⟨g, 1, none⟩) hgl).trans hg1
  have HO := hid hown; have HB := hid hb1; clear hown hb1 hg0 hg1
  go_wp2_with fail
  refine wp_loop_rounds 3 ?_
  rw [rounds_succ]
  go_wp2_with (at_builtin; refine wpList_append_any _ rfl (.tmp 31) (.tmp 32) 22 rfl w.heap.size 24 i0 _ 2 16 Try.underlying22 hi0 hz0 hz1 hz2 rfl (by decide) _ 0 [] rfl HO.out A n c (cellsR xs) rfl (HX.out.below HB.out).2 (cellsR_one _) (by unfold maxLen; omega) (by omega) HB.out.size ?_)
  intro v2 w2 hown2 hg2 _
  have hb2 : Below w.heap.size w w2 := below_own HB.out HO.out hg2 HB.out.size (Nat.le_refl _)
  have e2 := (hb2.cell (p := ⟨g, 1, none⟩) hgl).trans ((HB.out.cell (p := ⟨g, 1, none⟩) hgl).symm.trans e1)
  have HO2 := hid hown2; have HB2 := hid hb2; clear hown2 hb2 hg2 e0 e1
  go_wp2
  rw [rounds_succ]
  go_wp2_with (at_builtin; refine wpList_append_any _ rfl (.tmp 31) (.tmp 32) 22 rfl w.heap.size 24 i0 _ 2 16 Try.underlying22 hi0 hz0 hz1 hz2 rfl (by decide) _ n (cellsR xs) rfl HO2.out B m d (cellsR ys) rfl (HY.out.below HB2.out).2 (cellsR_one _) (by unfold maxLen; omega) (by omega) HB2.out.size ?_)
  intro v3 w3 hown3 hg3 _
  have hb3 : Below w.heap.size w w3 := below_own HB2.out HO2.out hg3 HB2.out.size (Nat.le_refl _)
  have HO3 := hid hown3; have HB3 := hid hb3; clear hown3 hb3 hg3 e2
  go_wp2
  rw [rounds_succ]
  go_wp2
  go_ret
  obtain ⟨A3, c3, rfl, h1, h2⟩ := own_slice HO3.out
  exact ⟨_, rfl, ⟨A3, _, c3, rfl, h1, h2, OwnR.of_own (by rw [cellsR_append]; exact HO3.out)⟩, HB3.out⟩

set_option maxHeartbeats 800000 in
theorem row_any (A B : Option Addr) (n c m d : Nat) (xs ys : List Gr.Rec) (w : World) (hx : RD w A n xs) (hy : RD w B m ys) (hn : n + m ≤ 1048576) :
    Calls Try.prog 40 #[.slice A n c, .slice B m d] w fun e w' => ∃ v, e = .returned v ∧ IsRow w' w.heap.size v (xs ++ ys) ∧ Below w.heap.size w w' := by
  have HX := hid hx; have HY := hid hy; clear hx hy
  go_enter Try.func40, Try.ntmps40
  go_wp2_with fail
  refine (concat_two w.heap.size A B n c m d xs ys _ (by simp [go_sem]) (by simp [go_sem]) (HX.out.alloc _) (HY.out.alloc _) hn).mono ?_
  rintro e w1 ⟨v, rfl, hv, hb⟩
  obtain ⟨A1, N1, c1, rfl, hc, hm, hr⟩ := hv
  have HR := hid hr; have HB := hid hb; clear hr hb
  go_wp2
  go_ret
  exact ⟨_, rfl, ⟨A1, N1, c1, rfl, hc, hm, HR.out.mono (by simp)⟩, ((Below.refl w.heap.size w).alloc (Nat.le_refl _) _).trans (HB.out.mono (by simp))⟩
end Go.Proofs.Ytkkbgohijokbhaa
