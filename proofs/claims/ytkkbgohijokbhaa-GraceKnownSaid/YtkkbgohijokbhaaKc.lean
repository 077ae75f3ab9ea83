/- GraceEnds as a call, at two hundred calls of one processor. -/
import Derived.Test.YtkkbgohijokbhaaKb
namespace Go.Proofs.Ytkkbgohijokbhaa
open Go.RowKit
open En

/-- the first two hundred calls: Call(0, ..) -/
def Many (w : World) (A : Option Addr) : Prop := ∀ j, j < 200 → ∃ b o, A = some ⟨b, o, none⟩ ∧ b < w.heap.size ∧ w.cell? ⟨b, o + j * 3, none⟩ = some (.int .i64 3) ∧ w.cell? ⟨b, o + j * 3 + 1, none⟩ = some (.int .i64 0)
theorem depth_sol {w0 w : World} {g : Nat} {s : Gr.St} {B c v : Int} (h : Solo w0 w g s) (ho : Gr.Ok s B) (hv : depthOf s c = v) :
    Calls Try.prog 35 #[.pointer (some ⟨g, 0, none⟩), .int .i64 c] w fun e w' => e = .returned (.int .i64 v) ∧ w' = w := (depth_any g s B c w h.G ho).mono fun e w' ⟨he, hw⟩ => ⟨by rw [he, hv], hw.symm⟩
theorem waits_sol {w0 w : World} {g : Nat} {s : Gr.St} {B c v : Int} (h : Solo w0 w g s) (ho : Gr.Ok s B) (hv : waitsOf s c = v) :
    Calls Try.prog 36 #[.pointer (some ⟨g, 0, none⟩), .int .i64 c] w fun e w' => e = .returned (.int .i64 v) ∧ w' = w := (waits_any g s B c w h.G ho).mono fun e w' ⟨he, hw⟩ => ⟨by rw [he, hv], hw.symm⟩

set_option maxHeartbeats 6400000 in
set_option maxRecDepth 100000 in
theorem graceEnds_many (A : Option Addr) (n cp : Nat) (W : World) (h : Many W A) (hn : 200 < n) (hm : n ≤ maxLen) : Calls Try.prog 38 #[.int .i64 2, .slice A n cp, .int .i64 0] W fun e w' => e = .returned (.bool true) ∧ Below W.heap.size W w' := by
  have H := hid h
  unfold maxLen at hm
  clear h
  go_enter Try.func38, Try.ntmps38
  go_wp2_with fail
  refine (bring_any 2 8 (by decide) (by decide) _).mono ?_
  rintro e w1 ⟨rfl, rfl⟩
  rw [show (2 : Int) % 8 = 2 from rfl]
  go_wp2_with fail
  refine (new_ok 3 (by decide) (by decide) _).mono ?_
  rintro e w1 ⟨g, rfl, hg, hG, hB⟩
  have HS : Hid (Solo W w1 g (Gr.many 0)) := hid ⟨hG, hB, hg⟩
  clear hG hB hg
  go_wp2_with fail
  go_loopw [9, 10, 11] (fun q i y wr => ∃ j : Nat, j ≤ 200 ∧ i = .int .i64 j ∧ q = .int .i64 j ∧ Hid (Solo W wr g (Gr.many j))) (fun _ i _ _ => 200 - (intOf i).toNat)
  case atStart => exact ⟨0, Nat.zero_le _, rfl, rfl, HS⟩
  case round =>
    obtain ⟨j, hj, rfl, rfl, HS⟩ := hrel
    by_cases hlt : j < 200
    · obtain ⟨b, o, rfl, hbo, c1, c2⟩ := H.out j hlt
      have d1 := (HS.out.B.cell (p := ⟨b, o + j * 3, none⟩) hbo).trans c1
      have d2 := (HS.out.B.cell (p := ⟨b, o + j * 3 + 1, none⟩) hbo).trans c2
      have hjn : j < n := by omega
      clear c1 c2 hbo
      go_wp2_with fail
      refine (bring_any 0 3 (by decide) (by decide) _).mono ?_
      rintro e w2 ⟨rfl, rfl⟩
      rw [show (0 : Int) % 3 = 0 from rfl]
      go_wp2_with fail
      refine (bring_any 3 4 (by decide) (by decide) _).mono ?_
      rintro e w2 ⟨rfl, rfl⟩
      rw [show (3 : Int) % 4 = 3 from rfl]
      go_wp2_with fail
      refine (call_sol HS.out (Gr.many_ok j hj) (by decide) (Gr.many_succ j hlt)).mono ?_
      rintro e w3 ⟨rfl, HS3⟩
      clear d1 d2
      go_wp2_with fail
      go_roundw
      case rel => exact ⟨j + 1, by omega, by go_num, by go_num, HS3⟩
      case measure => simp [intOf]; omega
    · have hj2 : j = 200 := by omega
      have HS0 : Hid (Solo W wr g k0) := by rw [hj2] at HS; exact HS
      have hge : 200 ≤ j := by omega
      have hji : (j : Int) = 200 := by omega
      clear HS hj2
      go_wp2_with fail
      refine wp_loop_rounds 4 ?_
      rw [rounds_succ]
      go_wp2_with fail
      refine wp_loop_rounds 1 ?_
      rw [rounds_succ]
      go_wp2_with fail
      refine (depth_sol HS0.out o0 (d0 0 (by decide))).mono ?_
      rintro e w2 ⟨rfl, rfl⟩
      go_wp2_with fail
      rw [rounds_succ]
      go_wp2_with fail
      refine wp_loop_rounds 1 ?_
      rw [rounds_succ]
      go_wp2_with fail
      refine (depth_sol HS0.out o0 (d0 1 (by decide))).mono ?_
      rintro e w2 ⟨rfl, rfl⟩
      go_wp2_with fail
      rw [rounds_succ]
      go_wp2_with fail
      refine wp_loop_rounds 1 ?_
      rw [rounds_succ]
      go_wp2_with fail
      refine (depth_sol HS0.out o0 (d0 2 (by decide))).mono ?_
      rintro e w2 ⟨rfl, rfl⟩
      go_wp2_with fail
      rw [rounds_succ]
      go_wp2_with fail
      refine wp_loop_rounds 7 ?_
      rw [rounds_succ]
      go_wp2_with fail
      refine (bring_any 0 3 (by decide) (by decide) _).mono ?_
      rintro e w2 ⟨rfl, rfl⟩
      rw [show (0 : Int) % 3 = 0 from rfl]
      go_wp2_with fail
      refine (quiet_sol HS0.out o0 (by decide) e1).mono ?_
      rintro e w2 ⟨rfl, HS1⟩
      go_wp2_with fail
      rw [rounds_succ]
      go_wp2_with fail
      refine (bring_any 0 3 (by decide) (by decide) _).mono ?_
      rintro e w2 ⟨rfl, rfl⟩
      rw [show (0 : Int) % 3 = 0 from rfl]
      go_wp2_with fail
      refine (quiet_sol HS1.out o1 (by decide) e2).mono ?_
      rintro e w2 ⟨rfl, HS2⟩
      go_wp2_with fail
      rw [rounds_succ]
      go_wp2_with fail
      refine (bring_any 0 3 (by decide) (by decide) _).mono ?_
      rintro e w2 ⟨rfl, rfl⟩
      rw [show (0 : Int) % 3 = 0 from rfl]
      go_wp2_with fail
      refine (quiet_sol HS2.out o2 (by decide) e3).mono ?_
      rintro e w2 ⟨rfl, HS3⟩
      go_wp2_with fail
      rw [rounds_succ]
      go_wp2_with fail
      refine (bring_any 0 3 (by decide) (by decide) _).mono ?_
      rintro e w2 ⟨rfl, rfl⟩
      rw [show (0 : Int) % 3 = 0 from rfl]
      go_wp2_with fail
      refine (quiet_sol HS3.out o3 (by decide) e4).mono ?_
      rintro e w2 ⟨rfl, HS4⟩
      go_wp2_with fail
      rw [rounds_succ]
      go_wp2_with fail
      refine (bring_any 0 3 (by decide) (by decide) _).mono ?_
      rintro e w2 ⟨rfl, rfl⟩
      rw [show (0 : Int) % 3 = 0 from rfl]
      go_wp2_with fail
      refine (quiet_sol HS4.out o4 (by decide) e5).mono ?_
      rintro e w2 ⟨rfl, HS5⟩
      go_wp2_with fail
      rw [rounds_succ]
      go_wp2_with fail
      refine (bring_any 0 3 (by decide) (by decide) _).mono ?_
      rintro e w2 ⟨rfl, rfl⟩
      rw [show (0 : Int) % 3 = 0 from rfl]
      go_wp2_with fail
      refine (quiet_sol HS5.out o5 (by decide) e6).mono ?_
      rintro e w2 ⟨rfl, HS6⟩
      go_wp2_with fail
      rw [rounds_succ]
      go_wp2_with fail
      refine (done_any g k6 6 _ HS6.out.G o6).mono ?_
      rintro e w2 ⟨rfl, nq, hnq⟩
      have HP0 : Hid (Solo W w2 g k6) := by rw [hnq]; exact hid (HS6.out.drewN nq)
      rw [g6]
      obtain ⟨ee, hee⟩ : ∃ ee, ee = k6.ended := ⟨_, rfl⟩
      rw [← hee]
      clear hnq hee
      go_wp2_with fail
      refine wp_loop_rounds 4 ?_
      rw [rounds_succ]
      go_wp2_with fail
      refine (poll_sol HP0.out o6 f1).mono ?_
      rintro e w2 ⟨A0, N0, c0, rfl, -, -, HR0, HP1, -⟩
      obtain rfl : N0 = 200 := by rw [HR0.out.1]; exact idl
      clear HR0
      go_wp2_with fail
      refine (waits_sol HP1.out u1 En.w1).mono ?_
      rintro e w3 ⟨rfl, rfl⟩
      go_wp2_with fail
      rw [rounds_succ]
      go_wp2_with fail
      refine (poll_sol HP1.out u1 f2).mono ?_
      rintro e w2 ⟨A1, N1, c1, rfl, -, -, HR1, HP2, -⟩
      obtain rfl : N1 = 0 := by rw [HR1.out.1]; rfl
      clear HR1
      go_wp2_with fail
      refine (waits_sol HP2.out u2 En.w2).mono ?_
      rintro e w3 ⟨rfl, rfl⟩
      go_wp2_with fail
      rw [rounds_succ]
      go_wp2_with fail
      refine (poll_sol HP2.out u2 f3).mono ?_
      rintro e w2 ⟨A2, N2, c2, rfl, -, -, HR2, HP3, -⟩
      obtain rfl : N2 = 0 := by rw [HR2.out.1]; rfl
      clear HR2
      go_wp2_with fail
      refine (waits_sol HP3.out u3 En.w3).mono ?_
      rintro e w3 ⟨rfl, rfl⟩
      go_wp2_with fail
      rw [rounds_succ]
      go_wp2_with fail
      refine (works10 _).mono ?_
      rintro e w5 ⟨rfl, hb⟩
      have HB5 := hid hb; clear hb
      go_wp2_with fail
      go_ret
      exact ⟨rfl, below_trans' HP3.out.B HB5.out⟩
end Go.Proofs.Ytkkbgohijokbhaa
