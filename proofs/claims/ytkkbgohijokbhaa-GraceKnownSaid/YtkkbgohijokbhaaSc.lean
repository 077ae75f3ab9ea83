/- wainscotlaw10.same. -/
import Derived.Test.YtkkbgohijokbhaaSb
namespace Go.Proofs.Ytkkbgohijokbhaa
open Go.RowKit

set_option maxHeartbeats 3200000 in
theorem same_play (w0 w : World) (g m d r q : Nat) (s : Gr.St) (E : Int) (h : Play w0 w g m d r q s s) (ho : Gr.Ok s E) :
    Calls Try.prog 27 #[.pointer (some ⟨g, 0, none⟩), .pointer (some ⟨m, 0, none⟩)] w (Steps w0 g m d r q s) := by
  have H := hid h; have HO := hid ho
  clear h ho
  go_enter Try.func27, Try.ntmps27
  go_wp2_with fail
  refine (done_any g s E _ H.out.G HO.out).mono ?_
  rintro e w1 ⟨rfl, n1, rfl⟩
  go_wp2_with fail
  refine (rdone_any m d r q s _ (H.out.R.drewN n1)).mono ?_
  rintro e w1 ⟨rfl, n2, rfl⟩
  obtain ⟨en, hen⟩ : ∃ x, x = s.ended := ⟨_, rfl⟩
  obtain ⟨gg, hgg⟩ : ∃ x, x = s.going := ⟨_, rfl⟩
  rw [← hen, ← hgg]
  clear hen hgg
  have HP := hid ((H.out.drewN n1).drewN n2)
  generalize (w.drewN n1).drewN n2 = w1 at HP ⊢
  cases gg
  all_goals
    go_wp2_with fail
    go_loopw [9] (fun i wr => ∃ k : Int, -1 ≤ k ∧ k ≤ 9 ∧ i = .int .i64 k ∧ wr = w1) (fun i _ => (10 - intOf i).toNat)
    case atStart => exact ⟨-1, by omega, by omega, rfl, rfl⟩
    case round =>
      obtain ⟨k, hk1, hk2, rfl, rfl⟩ := hrel
      by_cases hlt : k < 9
      · go_wp2_with fail
        refine (depth_any g s E k _ HP.out.G HO.out).mono ?_
        rintro e w2 ⟨rfl, rfl⟩
        go_wp2_with fail
        refine (rdepth_any m d r q s k _ HP.out.R HO.out.le8).mono ?_
        rintro e w2 ⟨rfl, rfl⟩
        go_wp2_with fail
        refine (waits_any g s E k _ HP.out.G HO.out).mono ?_
        rintro e w2 ⟨rfl, rfl⟩
        go_wp2_with fail
        refine (rwaits_any m d r q s k _ HP.out.R HO.out.le8).mono ?_
        rintro e w2 ⟨rfl, rfl⟩
        go_wp2_with fail
        refine (wanted_any g s E k _ HP.out.G HO.out).mono ?_
        rintro e w2 ⟨rfl, rfl⟩
        go_wp2_with fail
        refine (rwanted_any m d r q s k _ HP.out.R HO.out.le8 HO.out.nlen).mono ?_
        rintro e w2 ⟨rfl, rfl⟩
        go_wp2_with fail
        go_roundw
        case rel => exact ⟨k + 1, by omega, by omega, by go_num, trivial⟩
        case measure => simp [intOf]; omega
      · go_wp2_with fail
        go_ret
        exact ⟨rfl, HP.out⟩
end Go.Proofs.Ytkkbgohijokbhaa
