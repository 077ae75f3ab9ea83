/- grace.Grace: begin, waits. -/
import Derived.Test.YtkkbgohijokbhaaX
namespace Go.Proofs.Ytkkbgohijokbhaa
open Go.RowKit

/-- the machine in the middle of 'begin' -/
def beg (s : Gr.St) (j : Nat) : Gr.St := { s with going := true, needs := List.replicate j true ++ s.needs.drop j }
theorem beg_zero (s : Gr.St) : beg s 0 = { s with going := true } := by simp [beg]
theorem beg_last {s : Gr.St} (h : s.needs.length = s.deep.length) : beg s s.deep.length = s.begin := by
  unfold beg Gr.St.begin Gr.St.cpus
  rw [List.drop_eq_nil_of_le (by omega), List.append_nil]
theorem beg_succ {s : Gr.St} {j : Nat} (h : j < s.needs.length) : ({ beg s j with needs := (beg s j).needs.set j true } : Gr.St) = beg s (j + 1) := by
  unfold beg
  have : (List.replicate j true ++ s.needs.drop j).set j true = List.replicate (j + 1) true ++ s.needs.drop (j + 1) := by
    rw [List.set_append_right _ _ (by simp)]
    rw [List.length_replicate, Nat.sub_self]
    rw [List.drop_eq_getElem_cons h, List.set_cons_zero, List.replicate_succ', List.append_assoc]
    rfl
  simp only [this]
theorem beg_len {s : Gr.St} {j : Nat} (h : j ≤ s.needs.length) : (beg s j).needs.length = s.needs.length := by
  simp [beg]; omega

set_option maxHeartbeats 1600000 in
theorem begin_any (g : Nat) (s : Gr.St) (w : World) (h : GRep w g s) (h1 : 1 ≤ s.deep.length) (h8 : s.deep.length ≤ 8) (hl : s.needs.length = s.deep.length) :
    Calls Try.prog 56 #[.pointer (some ⟨g, 0, none⟩)] w fun e w' => e = .returned (.tuple #[]) ∧ GRep w' g s.begin ∧ Fr [g] w w' := by
  have hfr := h.frozen 18
  have hgo := h.goingAt
  have H := hid h
  have HS := hid hl
  obtain ⟨n, hn⟩ : ∃ n, n = s.deep.length := ⟨_, rfl⟩
  have hcpu := h.cpus
  rw [← hn] at hcpu h1 h8
  have HN := hid hn
  clear h hl hn
  go_enter Try.func56, Try.ntmps56
  go_wp2_with fail
  go_loopw [10] (fun i wr => ∃ k : Nat, k ≤ n ∧ i = .int .i64 k ∧ Hid (GRep wr g (beg s k)) ∧ Hid (Fr [g] w wr)) (fun i _ => n - (intOf i).toNat)
  case atStart => exact ⟨0, Nat.zero_le _, rfl, by rw [beg_zero]; exact H.out.setGoing true, (Fr.refl _ _).setCell (by simp) _⟩
  case round =>
    obtain ⟨k, hk, rfl, HG, HF⟩ := hrel
    by_cases hlt : k < n
    · have hfk := HG.out.frozen (19 + k)
      have hk8 : k < 8 := by omega
      have hnk := HG.out.needAt k hk8
      go_wp2_with fail
      go_roundw
      case rel =>
        have hkn : k < s.needs.length := by rw [HS.out, ← HN.out]; exact hlt
        exact ⟨k + 1, by omega, by go_num, by rw [← beg_succ hkn]; exact HG.out.setNeed k (by rw [beg_len (by omega)]; exact hkn) hk8 true, HF.out.setCell (by simp) _⟩
      case measure => simp [intOf]; omega
    · obtain rfl : k = n := by omega
      go_wp2_with fail
      exact bodyPost_end (results_none rfl _ _ _) rfl ⟨rfl, by rw [← beg_last HS.out, ← HN.out]; exact HG.out, HF.out⟩

theorem later_yes {s : Gr.St} {k : Nat} (hk : k < s.rows.length) (h : Gr.lateRow s.ended (s.rows.getD k []) = true) : s.later = true :=
  List.any_eq_true.2 ⟨_, Gr.getD_mem _ _ _ hk, h⟩
theorem later_no {s : Gr.St} {n : Nat} (hn : n = s.rows.length) (h : ∀ j, j < n → Gr.lateRow s.ended (s.rows.getD j []) = false) : s.later = false := by
  cases e : s.later with
  | false => rfl
  | true =>
    obtain ⟨l, hl, hb⟩ := List.any_eq_true.1 e
    obtain ⟨j, hj, rfl⟩ := List.getElem_of_mem hl
    have := h j (by omega)
    rw [List.getD_eq_getElem?_getD, List.getElem?_eq_getElem hj] at this
    exact absurd (this.symm.trans hb) (by decide)
theorem late_nil (E : Int) : Gr.lateRow E [] = false := rfl
theorem late_last {E : Int} {l : List Gr.Rec} {m : Nat} {x : Gr.Rec} (hm : m + 1 = l.length) (hx : l[m]? = some x) : Gr.lateRow E l = decide (E < x.2) := by
  unfold Gr.lateRow
  rw [List.getLast?_eq_getElem?, ← hm, Nat.add_sub_cancel, hx]

set_option maxHeartbeats 1600000 in
theorem waits_grace (g : Nat) (s : Gr.St) (w : World) (h : GRep w g s) (h1 : 1 ≤ s.deep.length) (h8 : s.deep.length ≤ 8) (hl : s.rows.length = s.deep.length) :
    Calls Try.prog 55 #[.pointer (some ⟨g, 0, none⟩)] w fun e w' => e = .returned (.bool s.later) ∧ ∃ m, w' = w.drewN m := by
  have H := hid h
  have hend := h.endedAt
  have HS := hid hl
  obtain ⟨E, hE⟩ : ∃ E, E = s.ended := ⟨_, rfl⟩
  rw [← hE] at hend
  have HE := hid hE
  obtain ⟨n, hn⟩ : ∃ n, n = s.deep.length := ⟨_, rfl⟩
  have hcpu := h.cpus
  rw [← hn] at hcpu h1 h8
  have HN := hid hn
  clear h hl hn hE
  go_enter Try.func55, Try.ntmps55
  go_wp2_with fail
  go_loopw [9] (fun i wr => ∃ k m : Nat, k ≤ n ∧ i = .int .i64 k ∧ wr = w.drewN m ∧ Hid (∀ j, j < k → Gr.lateRow s.ended (s.rows.getD j []) = false)) (fun i _ => n - (intOf i).toNat)
  case atStart => exact ⟨0, 0, Nat.zero_le _, rfl, rfl, hid fun j hj => absurd hj (by omega)⟩
  case round =>
    obtain ⟨k, m, hk, rfl, rfl, HA⟩ := hrel
    by_cases hlt : k < n
    · have hk8 : k < 8 := by omega
      go_wp2_with fail
      refine (row_of g s k (w.drewN m) H.out hk8).mono ?_
      rintro e w1 ⟨A, N, c, rfl, hNc, hcm, hr, rfl⟩
      cases N with
      | zero =>
        have HR := hid hr; clear hr
        go_wp2_with fail
        have b1 : decide ((0 : Int) < ((0 : Nat) : Int)) = false := by decide
        go_quiet (fail)
        go_wp2_with fail
        go_roundw
        case rel =>
          refine ⟨k + 1, _, by omega, by go_num, rfl, hid fun j hj => ?_⟩
          by_cases e : j = k
          · rw [e, List.eq_nil_of_length_eq_zero HR.out.1.symm]; rfl
          · exact HA.out j (by omega)
        case measure => simp [intOf]; omega
      | succ N =>
        obtain ⟨⟨ix, tx⟩, hx⟩ : ∃ y, (s.rows.getD k [])[N]? = some y := ⟨_, List.getElem?_eq_getElem (by rw [← hr.1]; omega)⟩
        obtain ⟨b, o, rfl, hbo, c1, c2⟩ := hr.rd.get N _ hx
        have c2' : w.cell? ⟨b, o + N * 2 + 1, none⟩ = some (.int .i64 tx) := c2
        have HL := hid (late_last (E := s.ended) hr.1 hx)
        clear hr hx c1 c2
        unfold maxLen at hcm
        go_wp2_with fail
        have b1 : decide ((0 : Int) < ((N + 1 : Nat) : Int)) = true := decide_eq_true (by omega)
        have b1' : decide (0 < N + 1) = true := decide_eq_true (by omega)
        have b3 : (0 : Int) < ((N + 1 : Nat) : Int) := by omega
        have hw : IntKind.i64.wrap (((N + 1 : Nat) : Int) - 1) = (N : Int) := by rw [show ((N + 1 : Nat) : Int) - 1 = (N : Int) by omega]; exact IntWalk.i64_in _ (by omega)
        by_cases hlate : E < tx
        · have d1 : decide (E < tx) = true := decide_eq_true hlate
          go_quiet (fail)
          go_wp2_with fail
          go_ret
          exact ⟨by rw [later_yes (by rw [HS.out, ← HN.out]; exact hlt) (by rw [HL.out, ← HE.out]; exact decide_eq_true hlate)]; rfl, _, by simp only [World.drewN_drewN]; rfl⟩
        · have d1 : decide (E < tx) = false := decide_eq_false hlate
          go_quiet (fail)
          go_wp2_with fail
          go_roundw
          case rel =>
            refine ⟨k + 1, _, by omega, by go_num, rfl, hid fun j hj => ?_⟩
            by_cases e : j = k
            · rw [e, HL.out, ← HE.out]; exact decide_eq_false hlate
            · exact HA.out j (by omega)
          case measure => simp [intOf]; omega
    · obtain rfl : k = n := by omega
      go_wp2_with fail
      go_ret
      exact ⟨by rw [later_no (HN.out.trans HS.out.symm) HA.out]; rfl, _, rfl⟩
end Go.Proofs.Ytkkbgohijokbhaa
