/- book.unlocked, book.reported. -/
import Derived.Test.YtkkbgohijokbhaaTa
namespace Go.Proofs.Ytkkbgohijokbhaa
open Go.RowKit
open Gr (Noted)

/-- in the middle of the rows -/
def prt (f : Noted → Noted) (L : Nat → List Noted) (i m : Nat) : Nat → List Noted := fun j => if j < i then (L j).map f else if j = i then ((L j).take m).map f ++ (L j).drop m else L j
section
variable {f : Noted → Noted} {L : Nat → List Noted} {i m : Nat}
theorem prt_self : prt f L i m i = ((L i).take m).map f ++ (L i).drop m := by unfold prt; rw [if_neg (Nat.lt_irrefl _), if_pos rfl]
theorem prt_len (j : Nat) : (prt f L i m j).length = (L j).length := by
  unfold prt
  split
  · simp
  · split
    · simp; omega
    · rfl
theorem prt_at {p : Noted} (h : (L i)[m]? = some p) : (prt f L i m i)[m]? = some p := by
  have hm := (List.getElem?_eq_some_iff.1 h).1
  rw [prt_self, List.getElem?_append_right (by simp; omega), List.getElem?_drop]
  rw [← h]; congr 1; simp; omega
theorem prt_step {p : Noted} (h : (L i)[m]? = some p) (j : Nat) : Gr.upd (prt f L i m) i ((prt f L i m i).set m (f p)) j = prt f L i (m + 1) j := by
  have hm := (List.getElem?_eq_some_iff.1 h).1
  have hp := (List.getElem?_eq_some_iff.1 h).2
  unfold Gr.upd
  by_cases e : j = i
  · subst e
    rw [if_pos rfl, prt_self, prt_self, List.set_append_right _ _ (by simp; omega)]
    have hl : ((List.take m (L j)).map f).length = m := by simp; omega
    rw [hl, Nat.sub_self, List.drop_eq_getElem_cons hm, List.set_cons_zero, List.take_succ_eq_append_getElem hm, List.map_append, List.append_assoc, hp]
    rfl
  · rw [if_neg e]
    unfold prt
    split
    · rfl
    · simp
theorem prt_next (j : Nat) : prt f L i (L i).length j = prt f L (i + 1) 0 j := by
  unfold prt
  by_cases e : j = i
  · subst e
    rw [if_neg (Nat.lt_irrefl _), if_pos rfl, if_pos (by omega), List.take_length, List.drop_length, List.append_nil]
  · by_cases e2 : j < i
    · rw [if_pos e2, if_pos (by omega)]
    · rw [if_neg e2, if_neg e, if_neg (by omega)]
      split
      · simp
      · rfl
theorem prt_zero (j : Nat) : prt f L 0 0 j = L j := by
  unfold prt
  rw [if_neg (by omega)]
  split
  · simp
  · rfl
theorem prt_last (j : Nat) (hj : j < 3) : prt f L 3 0 j = Gr.allOf f L j := by unfold prt; rw [if_pos hj]; rfl
end

set_option maxHeartbeats 3200000 in
theorem unlocked_any (k c B : Nat) (d : List Int) (V : Nat → Value) (L : Nat → List Noted) (w : World) (h : BRep w B k d V L) (hc : c < 3) :
    Calls Try.prog 57 #[.pointer (some ⟨k, 0, none⟩), .int .i64 (c : Int)] w fun e w' => e = .returned (.tuple #[]) ∧ BRep w' B k d V (Gr.allOf (Gr.clrI c) L) ∧ Fk B w w' := by
  have H := hid h
  clear h
  go_enter Try.func57, Try.ntmps57
  go_wp2_with fail
  go_loopw [4, 5] (fun i x wr => ∃ j : Nat, j ≤ 3 ∧ i = .int .i64 j ∧ Hid (BRep wr B k d V (prt (Gr.clrI c) L j 0)) ∧ Hid (Fk B w wr)) (fun i _ _ => 3 - (intOf i).toNat)
  case atStart => exact ⟨0, Nat.zero_le _, rfl, H.out.congr fun j _ => (prt_zero j).symm, Fk.refl _ _⟩
  case round =>
    obtain ⟨j, hj, rfl, HB, HF⟩ := hrel
    by_cases hlt : j < 3
    · obtain ⟨A, cp, hv, -, -⟩ := (HB.out.row j hlt).slice
      rw [prt_len] at hv
      obtain ⟨n, hn⟩ : ∃ n, n = (L j).length := ⟨_, rfl⟩
      rw [← hn] at hv
      have HN := hid hn; have HV := hid hv
      have hnm : n ≤ maxLen := by
        obtain ⟨A', c', hv', r1, r2⟩ := (HB.out.row j hlt).slice
        rw [prt_len, ← hn] at r1
        omega
      unfold maxLen at hnm
      clear hn hv
      go_wp2_with fail
      go_loopw [5] (fun i wq => ∃ m : Nat, m ≤ n ∧ i = .int .i64 m ∧ Hid (BRep wq B k d V (prt (Gr.clrI c) L j m)) ∧ Hid (Fk B w wq)) (fun i _ => n - (intOf i).toNat)
      case atStart => exact ⟨0, Nat.zero_le _, rfl, HB, HF⟩
      case round =>
        obtain ⟨m, hm, rfl, HQ, HG⟩ := hrel
        have c1 := HQ.out.callsAt hlt
        rw [HV.out] at c1
        by_cases hlt2 : m < n
        · obtain ⟨p, hp⟩ : ∃ p, (L j)[m]? = some p := ⟨_, List.getElem?_eq_getElem (by rw [← HN.out]; exact hlt2)⟩
          obtain ⟨g, o, cc, hv2, -, q1, q2, hf, hcell, -⟩ := (HQ.out.row j hlt).at_ (prt_at hp)
          rw [HV.out] at hv2
          injection hv2 with e1 e2 e3
          subst e1
          have hfz := hf (o + m * 17 + 1 + c)
          have hcl := hcell (1 + c) _ (recCells_in q1 (show c < 8 by omega))
          rw [← Nat.add_assoc] at hcl
          obtain ⟨HP, HF2⟩ := HQ.out.poke (p' := Gr.clrI c p) hlt (prt_at hp) (by simp [Gr.clrI, q1]) (by simp [Gr.clrI, q2]) (j0 := 1 + c) (by omega) (recCells_clrI q1 (by omega)) HV.out
          rw [← Nat.add_assoc] at HP HF2
          have HP2 := hid (HP.congr fun j' _ => prt_step hp j')
          have HF3 := hid (HG.out.trans HF2)
          clear e2 e3 hf hcell HP HF2 hp
          go_wp2_with fail
          go_roundw
          case rel => exact ⟨m + 1, by omega, by go_num, HP2, HF3⟩
          case measure => simp [intOf]; omega
        · obtain rfl : m = n := by omega
          go_wp2_with fail
          go_roundw
          case rel => exact ⟨j + 1, by omega, by go_num, hid (HQ.out.congr fun j' _ => by rw [HN.out]; exact prt_next j'), HG⟩
          case measure => simp [intOf]; omega
    · obtain rfl : j = 3 := by omega
      go_wp2_with fail
      exact bodyPost_end (results_none rfl _ _ _) rfl ⟨rfl, HB.out.congr fun j' hj' => prt_last j' hj', HF.out⟩

set_option maxHeartbeats 3200000 in
theorem reported_any (k c B : Nat) (d : List Int) (V : Nat → Value) (L : Nat → List Noted) (w : World) (h : BRep w B k d V L) (hc : c < 3) :
    Calls Try.prog 58 #[.pointer (some ⟨k, 0, none⟩), .int .i64 (c : Int)] w fun e w' => e = .returned (.tuple #[]) ∧ BRep w' B k d V (Gr.allOf (Gr.clrS c) L) ∧ Fk B w w' := by
  have H := hid h
  clear h
  go_enter Try.func58, Try.ntmps58
  go_wp2_with fail
  go_loopw [4, 5] (fun i x wr => ∃ j : Nat, j ≤ 3 ∧ i = .int .i64 j ∧ Hid (BRep wr B k d V (prt (Gr.clrS c) L j 0)) ∧ Hid (Fk B w wr)) (fun i _ _ => 3 - (intOf i).toNat)
  case atStart => exact ⟨0, Nat.zero_le _, rfl, H.out.congr fun j _ => (prt_zero j).symm, Fk.refl _ _⟩
  case round =>
    obtain ⟨j, hj, rfl, HB, HF⟩ := hrel
    by_cases hlt : j < 3
    · obtain ⟨A, cp, hv, -, -⟩ := (HB.out.row j hlt).slice
      rw [prt_len] at hv
      obtain ⟨n, hn⟩ : ∃ n, n = (L j).length := ⟨_, rfl⟩
      rw [← hn] at hv
      have HN := hid hn; have HV := hid hv
      have hnm : n ≤ maxLen := by
        obtain ⟨A', c', hv', r1, r2⟩ := (HB.out.row j hlt).slice
        rw [prt_len, ← hn] at r1
        omega
      unfold maxLen at hnm
      clear hn hv
      go_wp2_with fail
      go_loopw [5] (fun i wq => ∃ m : Nat, m ≤ n ∧ i = .int .i64 m ∧ Hid (BRep wq B k d V (prt (Gr.clrS c) L j m)) ∧ Hid (Fk B w wq)) (fun i _ => n - (intOf i).toNat)
      case atStart => exact ⟨0, Nat.zero_le _, rfl, HB, HF⟩
      case round =>
        obtain ⟨m, hm, rfl, HQ, HG⟩ := hrel
        have c1 := HQ.out.callsAt hlt
        rw [HV.out] at c1
        by_cases hlt2 : m < n
        · obtain ⟨p, hp⟩ : ∃ p, (L j)[m]? = some p := ⟨_, List.getElem?_eq_getElem (by rw [← HN.out]; exact hlt2)⟩
          obtain ⟨g, o, cc, hv2, -, q1, q2, hf, hcell, -⟩ := (HQ.out.row j hlt).at_ (prt_at hp)
          rw [HV.out] at hv2
          injection hv2 with e1 e2 e3
          subst e1
          have hfz := hf (o + m * 17 + 9 + c)
          have hcl := hcell (9 + c) _ (recCells_si q1 q2 (show c < 8 by omega))
          rw [← Nat.add_assoc] at hcl
          obtain ⟨HP, HF2⟩ := HQ.out.poke (p' := Gr.clrS c p) hlt (prt_at hp) (by simp [Gr.clrS, q1]) (by simp [Gr.clrS, q2]) (j0 := 9 + c) (by omega) (recCells_clrS q1) HV.out
          rw [← Nat.add_assoc] at HP HF2
          have HP2 := hid (HP.congr fun j' _ => prt_step hp j')
          have HF3 := hid (HG.out.trans HF2)
          clear e2 e3 hf hcell HP HF2 hp
          go_wp2_with fail
          go_roundw
          case rel => exact ⟨m + 1, by omega, by go_num, HP2, HF3⟩
          case measure => simp [intOf]; omega
        · obtain rfl : m = n := by omega
          go_wp2_with fail
          go_roundw
          case rel => exact ⟨j + 1, by omega, by go_num, hid (HQ.out.congr fun j' _ => by rw [HN.out]; exact prt_next j'), HG⟩
          case measure => simp [intOf]; omega
    · obtain rfl : j = 3 := by omega
      go_wp2_with fail
      exact bodyPost_end (results_none rfl _ _ _) rfl ⟨rfl, HB.out.congr fun j' hj' => prt_last j' hj', HF.out⟩
end Go.Proofs.Ytkkbgohijokbhaa
