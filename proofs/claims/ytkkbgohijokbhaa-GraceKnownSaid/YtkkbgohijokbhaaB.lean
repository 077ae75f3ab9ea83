/- WALKS over package segs and its reference: Check. -/
import Derived.Test.YtkkbgohijokbhaaA
namespace Go.Proofs.Ytkkbgohijokbhaa
open Go.RowKit

theorem ret_int {k : IntKind} {a b : Int} (h : a = b) : Ending.returned (.int k a) = .returned (.int k b) := by rw [h]

theorem chk_step {l : List Gr.Rec} {k : Nat} (h : k < l.length) (last : Int) : Gr.chk last (l.drop k) = (Gr.okRec last l[k] && Gr.chk (l[k]).2 (l.drop (k + 1))) := by
  rw [List.drop_eq_getElem_cons h]; rfl
theorem chk_bad {l : List Gr.Rec} {k : Nat} {L : Int} (h : k < l.length) (hc : Gr.chk L (l.drop k) = Gr.chk 1 l) (hl : l.length ≤ 256)
    (hn : ¬ (0 ≤ (l[k]).1 ∧ (l[k]).1 ≤ 9007199254740991 ∧ L ≤ (l[k]).2 ∧ (l[k]).2 ≤ 9007199254740991)) : (2 : Int) = Gr.check l := by
  rw [chk_step h, Gr.okRec_not hn] at hc
  unfold Gr.check
  rw [if_neg (by omega), ← hc]; rfl
theorem chk_good {l : List Gr.Rec} {k : Nat} {L : Int} (h : k < l.length) (hc : Gr.chk L (l.drop k) = Gr.chk 1 l)
    (hn : 0 ≤ (l[k]).1 ∧ (l[k]).1 ≤ 9007199254740991 ∧ L ≤ (l[k]).2 ∧ (l[k]).2 ≤ 9007199254740991) : Gr.chk (l[k]).2 (l.drop (k + 1)) = Gr.chk 1 l := by
  rw [chk_step h, Gr.okRec_iff.2 hn] at hc
  simpa using hc
theorem chk_end {l : List Gr.Rec} {L : Int} {k : Nat} (hc : Gr.chk L (l.drop k) = Gr.chk 1 l) (hk : l.length ≤ k) (hl : l.length ≤ 256) : (0 : Int) = Gr.check l := by
  rw [List.drop_eq_nil_of_le hk] at hc
  unfold Gr.check
  rw [if_neg (by omega), ← hc]; rfl

set_option maxHeartbeats 400000 in
theorem check_any (A : Option Addr) (n c : Nat) (l : List Gr.Rec) (w : World) (h : RD w A n l) (hm : n ≤ maxLen) :
    Calls Try.prog 15 #[.slice A n c] w fun e w' => e = .returned (.int .i64 (Gr.check l)) ∧ Below w.heap.size w w' := by
  unfold maxLen at hm
  have hl := h.1
  have H := hid h; have HL := hid hl; clear h hl
  by_cases hbig : n ≤ 256
  · go_enter Try.func15, Try.ntmps15
    go_wp2
    go_loopw [3, 11] (fun last i wr => ∃ (k : Nat) (L : Int), k ≤ n ∧ i = .int .i64 k ∧ last = .int .i64 L ∧ Hid (Gr.chk L (l.drop k) = Gr.chk 1 l) ∧ Below w.heap.size w wr) (fun _ i _ => n - (intOf i).toNat)
    case atStart => exact ⟨0, 1, Nat.zero_le _, rfl, rfl, hid (by simp), Below.refl _ _⟩
    case round =>
      obtain ⟨k, L, hk, rfl, rfl, hc, hb⟩ := hrel
      by_cases hlt : k < n
      · obtain ⟨b, o, rfl, hbo, c1, c2⟩ := H.out.at_ hlt
        have d1 := (hb.cell (p := ⟨b, o + k * 2, none⟩) hbo).trans c1
        have d2 := (hb.cell (p := ⟨b, o + k * 2 + 1, none⟩) hbo).trans c2
        clear c1 c2
        go_wp2
        case roundEnd =>
          have HQ : Hid (k < l.length) := hid (by rw [← HL.out]; exact hlt)
          go_roundw
          case rel => exact ⟨k + 1, _, by omega, by go_num, rfl, hid (chk_good HQ.out hc.out (by omega)), hb.alloc hb.size _⟩
          case measure => simp [intOf]; omega
        all_goals
          go_ret
          have hq : k < l.length := by rw [← HL.out]; exact hlt
          exact ⟨ret_int (chk_bad hq hc.out (by rw [← HL.out]; exact hbig) (by omega)), hb.alloc hb.size _⟩
      · go_wp2
        go_ret
        exact ⟨ret_int (chk_end hc.out (by rw [← HL.out]; omega) (by rw [← HL.out]; exact hbig)), hb⟩
  · go_enter Try.func15, Try.ntmps15
    go_wp2
    go_ret
    exact ⟨ret_int (by unfold Gr.check; rw [← HL.out, if_pos (by omega)]), Below.refl _ _⟩
end Go.Proofs.Ytkkbgohijokbhaa
