/- the reference's machine: begin, waited, later. -/
import Derived.Test.YtkkbgohijokbhaaRb
namespace Go.Proofs.Ytkkbgohijokbhaa
open Go.RowKit

theorem beg_deep (s : Gr.St) (k : Nat) : (beg s k).deep = s.deep := rfl

set_option maxHeartbeats 1600000 in
theorem rbegin_any (m d r q : Nat) (s : Gr.St) (w : World) (h : RRep w m d r q s) (h8 : s.deep.length ≤ 8) (hl : s.needs.length = s.deep.length) :
    Calls Try.prog 64 #[.pointer (some ⟨m, 0, none⟩)] w fun e w' => e = .returned (.tuple #[]) ∧ RRep w' m d r q s.begin ∧ Fr [m, d, r, q] w w' := by
  have hfr := h.fm 3
  have hgo := h.m3
  have H := hid h
  have HS := hid hl
  obtain ⟨n, hn⟩ : ∃ n, n = s.deep.length := ⟨_, rfl⟩
  rw [← hn] at h8
  have HN := hid hn
  clear h hl hn
  go_enter Try.func64, Try.ntmps64
  go_wp2_with fail
  go_loopw [2] (fun i wr => ∃ k : Nat, k ≤ n ∧ i = .int .i64 k ∧ Hid (RRep wr m d r q (beg s k)) ∧ Hid (Fr [m, d, r, q] w wr)) (fun i _ => n - (intOf i).toNat)
  case atStart => exact ⟨0, Nat.zero_le _, rfl, by rw [beg_zero]; exact H.out.setGoing true, (Fr.refl _ _).setCell (by simp) _⟩
  case round =>
    obtain ⟨k, hk, rfl, HG, HF⟩ := hrel
    have hm4 := HG.out.m4
    rw [beg_deep, ← HN.out] at hm4
    by_cases hlt : k < n
    · have hfk := HG.out.fq k
      have hkn : k < (beg s k).needs.length := by rw [beg_len (by have := HS.out; have := HN.out; omega), HS.out, ← HN.out]; exact hlt
      have hnk := HG.out.needAt hkn
      clear hkn
      go_wp2_with fail
      go_roundw
      case rel =>
        have hkn : k < s.needs.length := by rw [HS.out, ← HN.out]; exact hlt
        exact ⟨k + 1, by omega, by go_num, by rw [← beg_succ hkn]; exact HG.out.setNeed k true, HF.out.setCell (by simp) _⟩
      case measure => simp [intOf]; omega
    · obtain rfl : k = n := by omega
      go_wp2_with fail
      exact bodyPost_end (results_none rfl _ _ _) rfl ⟨rfl, by rw [← beg_last HS.out, ← HN.out]; exact HG.out, HF.out⟩

theorem any_yes {l : List Bool} {k : Nat} (hk : k < l.length) (h : l.getD k false = true) : l.any id = true := List.any_eq_true.2 ⟨_, Gr.getD_mem _ _ _ hk, h⟩
theorem any_no {l : List Bool} {n : Nat} (hn : n = l.length) (h : ∀ j, j < n → l.getD j false = false) : l.any id = false := by
  cases e : l.any id with
  | false => rfl
  | true =>
    obtain ⟨b, hb, ht⟩ := List.any_eq_true.1 e
    obtain ⟨j, hj, rfl⟩ := List.getElem_of_mem hb
    have := h j (by omega)
    rw [List.getD_eq_getElem?_getD, List.getElem?_eq_getElem hj] at this
    exact absurd (this.symm.trans ht) (by decide)

set_option maxHeartbeats 1600000 in
theorem waited_any (m d r q : Nat) (s : Gr.St) (w : World) (h : RRep w m d r q s) (h8 : s.deep.length ≤ 8) (hl : s.needs.length = s.deep.length) :
    Calls Try.prog 62 #[.pointer (some ⟨m, 0, none⟩)] w fun e w' => e = .returned (.bool (s.needs.any id)) ∧ w' = w := by
  have H := hid h
  have HS := hid hl
  have hm4 := h.m4
  obtain ⟨n, hn⟩ : ∃ n, n = s.deep.length := ⟨_, rfl⟩
  rw [← hn] at h8 hm4
  have HN := hid hn
  clear h hl hn
  go_enter Try.func62, Try.ntmps62
  go_wp2_with fail
  go_loopw [3] (fun i wr => ∃ k : Nat, k ≤ n ∧ i = .int .i64 k ∧ wr = w ∧ Hid (∀ j, j < k → s.needs.getD j false = false)) (fun i _ => n - (intOf i).toNat)
  case atStart => exact ⟨0, Nat.zero_le _, rfl, rfl, hid fun j hj => absurd hj (by omega)⟩
  case round =>
    obtain ⟨k, hk, rfl, rfl, HA⟩ := hrel
    by_cases hlt : k < n
    · have hkn : k < s.needs.length := by rw [HS.out, ← HN.out]; exact hlt
      have hnk := H.out.needAt hkn
      obtain ⟨b, hb⟩ : ∃ b, b = s.needs.getD k false := ⟨_, rfl⟩
      rw [← hb] at hnk
      have HK := hid hkn; have HB := hid hb
      clear hkn hb
      cases b
      · go_wp2_with fail
        go_roundw
        case rel =>
          refine ⟨k + 1, by omega, by go_num, trivial, hid fun j hj => ?_⟩
          by_cases e : j = k
          · rw [e]; exact HB.out.symm
          · exact HA.out j (by omega)
        case measure => simp [intOf]; omega
      · go_wp2_with fail
        go_ret
        exact ⟨by rw [any_yes HK.out HB.out.symm]; rfl, rfl⟩
    · obtain rfl : k = n := by omega
      go_wp2_with fail
      go_ret
      exact ⟨by rw [any_no (HN.out.trans HS.out.symm) HA.out]; rfl, rfl⟩

set_option maxHeartbeats 1600000 in
theorem later_any (m d r q : Nat) (s : Gr.St) (w : World) (h : RRep w m d r q s) (h8 : s.deep.length ≤ 8) (hl : s.rows.length = s.deep.length) :
    Calls Try.prog 63 #[.pointer (some ⟨m, 0, none⟩)] w fun e w' => e = .returned (.bool s.later) ∧ ∃ m, w' = w.drewN m := by
  have H := hid h
  have hend := h.m2
  have hm1 := h.m1
  have HS := hid hl
  obtain ⟨E, hE⟩ : ∃ E, E = s.ended := ⟨_, rfl⟩
  rw [← hE] at hend
  have HE := hid hE
  obtain ⟨n, hn⟩ : ∃ n, n = s.deep.length := ⟨_, rfl⟩
  rw [← hn] at h8 hm1
  have HN := hid hn
  clear h hl hn hE
  go_enter Try.func63, Try.ntmps63
  go_wp2_with fail
  go_loopw [3] (fun i wr => ∃ k t : Nat, k ≤ n ∧ i = .int .i64 k ∧ wr = w.drewN t ∧ Hid (∀ j, j < k → Gr.lateRow s.ended (s.rows.getD j []) = false)) (fun i _ => n - (intOf i).toNat)
  case atStart => exact ⟨0, 0, Nat.zero_le _, rfl, rfl, hid fun j hj => absurd hj (by omega)⟩
  case round =>
    obtain ⟨k, t, hk, rfl, rfl, HA⟩ := hrel
    by_cases hlt : k < n
    · obtain ⟨A, N, c, hv, hNc, hcm, hr⟩ := H.out.rowAt (k := k) (by rw [← HN.out]; exact hlt)
      cases N with
      | zero =>
        have HR := hid hr; clear hr
        have b1 : decide ((0 : Int) < ((0 : Nat) : Int)) = false := by decide
        go_wp2_with fail
        go_quiet (fail)
        go_wp2_with fail
        go_roundw
        case rel =>
          refine ⟨k + 1, _, by omega, by go_num, rfl, hid fun j hj => ?_⟩
          by_cases e : j = k
          · rw [e, List.eq_nil_of_length_eq_zero HR.out.1.symm]; rfl
          · exact HA.out j (by omega)
        case measure => simp [intOf]; omega
      | succ N =>
        obtain ⟨⟨ix, tx⟩, hx⟩ : ∃ y, (s.rows.getD k [])[N]? = some y := ⟨_, List.getElem?_eq_getElem (by rw [← hr.1]; omega)⟩
        obtain ⟨b, o, rfl, hbo, c1, c2⟩ := hr.rd.get N _ hx
        have c2' : w.cell? ⟨b, o + N * 2 + 1, none⟩ = some (.int .i64 tx) := c2
        have HL := hid (late_last (E := s.ended) hr.1 hx)
        clear hr hx c1 c2
        unfold maxLen at hcm
        go_wp2_with fail
        have b1 : decide ((0 : Int) < ((N + 1 : Nat) : Int)) = true := decide_eq_true (by omega)
        have b1' : decide (0 < N + 1) = true := decide_eq_true (by omega)
        have b3 : (0 : Int) < ((N + 1 : Nat) : Int) := by omega
        have hw : IntKind.i64.wrap (((N + 1 : Nat) : Int) - 1) = (N : Int) := by rw [show ((N + 1 : Nat) : Int) - 1 = (N : Int) by omega]; exact IntWalk.i64_in _ (by omega)
        by_cases hlate : E < tx
        · have d1 : decide (E < tx) = true := decide_eq_true hlate
          go_quiet (fail)
          go_wp2_with fail
          go_ret
          exact ⟨by rw [later_yes (by rw [HS.out, ← HN.out]; exact hlt) (by rw [HL.out, ← HE.out]; exact decide_eq_true hlate)]; rfl, _, by simp only [World.drewN_drewN]; rfl⟩
        · have d1 : decide (E < tx) = false := decide_eq_false hlate
          go_quiet (fail)
          go_wp2_with fail
          go_roundw
          case rel =>
            refine ⟨k + 1, _, by omega, by go_num, rfl, hid fun j hj => ?_⟩
            by_cases e : j = k
            · rw [e, HL.out, ← HE.out]; exact decide_eq_false hlate
            · exact HA.out j (by omega)
          case measure => simp [intOf]; omega
    · obtain rfl : k = n := by omega
      go_wp2_with fail
      go_ret
      exact ⟨by rw [later_no (HN.out.trans HS.out.symm) HA.out]; rfl, _, rfl⟩
end Go.Proofs.Ytkkbgohijokbhaa
