/- the reference's Check. -/
import Derived.Test.YtfnnfnklhejlmaaO
namespace Go.Proofs.Ytfnnfnklhejlmaa
open Go.RowKit

theorem IsB.head {w : World} {base : Nat} {v : Value} {l : List Int} (h : IsB w base v l) (h0 : 0 < l.length) :
    ∃ g c cur, v = .slice (some ⟨g, 0, none⟩) l.length c ∧ base ≤ g ∧ w.heap[g]? = some (.cells (Array.toList cur).toArray 5 (0, 0)) ∧ l.length ≤ c ∧ c ≤ maxLen ∧ l.length ≤ cur.toList.length ∧ cur.toList.take l.length = cellsU l := by
  rcases h.2 with ⟨rfl, h1⟩ | ⟨g, cap, cur, rfl, hb, hg, hnc, hcm, hcs, htake⟩
  · omega
  · exact ⟨g, cap, cur, rfl, hb, by simpa using hg, hnc, hcm, by have := hcs; simp at this ⊢; omega, by simpa using htake⟩
theorem rb_spliced {w : World} {g n k : Nat} {cur : List Value} {l r : List Int} (hlen : n ≤ cur.length) (hn : n = l.length) (ht : cur.take n = cellsU l) (hg : w.heap[g]? = some (.cells (splice cur 8 (cellsU r)).toArray 5 (0, 0))) (hk : r.length = k) (hkn : 8 + k ≤ n) :
    RB w (some ⟨g, 0, none⟩) n (l.take 8 ++ r ++ l.drop (8 + k)) := by
  have hl : (l.take 8 ++ r ++ l.drop (8 + k)).length = n := by simp; omega
  refine ⟨hl.symm, by rw [cellsU, List.length_map, hl]; omega, fun _ => ⟨g, 0, rfl, (Array.getElem?_eq_some_iff.1 hg).1, fun j u hu => ?_⟩⟩
  have hj : j < n := by
    have := (List.getElem?_eq_some_iff.1 hu).1
    rw [cellsU, List.length_map, hl] at this
    exact this
  rw [Nat.zero_add, cell_of_row w g j _ 5 (0, 0) hg]
  have hcr : (cellsU r).length = k := by simp [cellsU, hk]
  have hlj : ∀ i, i < n → cur[i]? = (cellsU l)[i]? := fun i hi => by rw [← ht, List.getElem?_take_of_lt hi]
  rw [← hu]
  simp only [List.getElem?_toArray]
  unfold splice
  rw [hcr, cellsU_append, cellsU_append]
  by_cases h1 : j < 8
  · rw [List.getElem?_append_left (by simp; omega), List.getElem?_take_of_lt h1, List.append_assoc, List.getElem?_append_left (by simp [cellsU]; omega), hlj j hj]
    simp [cellsU, List.getElem?_take_of_lt h1]
  · by_cases h2 : j < 8 + k
    · rw [List.getElem?_append_right (by simp; omega), List.getElem?_append_left (by simp [cellsU]; omega), List.append_assoc, List.getElem?_append_right (by simp [cellsU]; omega), List.getElem?_append_left (by simp [cellsU]; omega)]
      congr 1
      simp [cellsU]; omega
    · rw [List.getElem?_append_right (by simp; omega), List.getElem?_append_right (by simp [cellsU]; omega), List.getElem?_append_right (by simp [cellsU]; omega), List.getElem?_drop]
      rw [hlj _ (by simp; omega)]
      simp only [cellsU, List.getElem?_map, List.getElem?_drop, List.length_map, List.length_take, List.length_append]
      congr 2
      simp; omega
theorem RB.drewN {w : World} {A : Option Addr} {n : Nat} {l : List Int} (h : RB w A n l) (q : Nat) : RB (w.drewN q) A n l := h
theorem outL_spliced (k : Nat) (l : List Int) : (laidL k 204 0).take 8 ++ (l.drop 8).take k ++ (laidL k 204 0).drop (8 + k) = outL k l := by
  have e1 : (laidL k 204 0).drop (8 + k) = List.replicate 8 204 := List.drop_left' (by rw [List.length_append, List.length_replicate, List.length_replicate])
  have e2 : (laidL k 204 0).take 8 = List.replicate 8 204 := by unfold laidL; rw [List.append_assoc]; exact List.take_left' (by simp)
  rw [e1, e2, outL]

set_option maxHeartbeats 1600000 in
theorem rcheck_bad (A : Option Addr) (n c : Nat) (out : Bool) (w : World) (h : n < 17 ∨ 1040 < n) :
    Calls Try.prog 15 #[.slice A n c, .bool out] w fun e w' => e = .returned (.tuple #[.int .i64 0, .int .i64 2]) ∧ Below w.heap.size w w' := by
  rcases h with h | h
  · go_enter Try.func15, Try.ntmps15
    go_wp2
    go_ret2
    exact ⟨rfl, Below.refl _ _⟩
  · have h1 : ¬ n < 17 := by omega
    go_enter Try.func15, Try.ntmps15
    go_wp2
    go_ret2
    exact ⟨rfl, Below.refl _ _⟩

set_option maxHeartbeats 3200000 in
theorem rcheck_in_ok (A : Option Addr) (k c : Nat) (l : List Int) (w : World) (h : RB w A (k + 16) l) (h1 : 1 ≤ k) (h2 : k ≤ 1024) (hd : ∀ j, j < k + 16 → l[j]? = (inL k)[j]?) :
    Calls Try.prog 15 #[.slice A (k + 16) c, .bool false] w fun e w' => e = .returned (.tuple #[.int .i64 0, .int .i64 0]) ∧ Below w.heap.size w w' := by
  have HH := hid h; have HD := hid hd
  obtain ⟨b, o, rfl, hbl, -⟩ := h.2.2 (by omega)
  clear h hd
  have e1 : ((k + 16 : Nat) : Int) - 16 = (k : Int) := by omega
  have e2 : ((k + 16 : Nat) : Int) - 8 = ((8 + k : Nat) : Int) := by omega
  have t1 : ¬ k + 16 < 17 := by omega
  have t2 : ¬ 1040 < k + 16 := by omega
  go_enter Try.func15, Try.ntmps15
  go_wp2_with fail
  refine (rlaid_any k 187 107 165 _ h2).mono ?_
  rintro e w1 ⟨v, rfl, hv, hb⟩
  rw [refL_in k h1] at hv
  obtain ⟨g, c1, cur, rfl, -, -, -, -, -, -⟩ := hv.head (by rw [inL_length]; omega)
  obtain ⟨_, N1, _, hv1, n1, n2, n3, hr⟩ := hv.rb
  cases hv1
  have HB := hid hb
  have HR := hid hr; have HBB := hid (HH.out.below hb)
  simp only [inL_length] at HR n2 n3 ⊢
  clear hv hb hr n1
  go_wp2_with fail
  go_loopw [7] (fun i wr => ∃ j : Nat, j ≤ k + 16 ∧ i = .int .i64 j ∧ Hid (RB wr (some ⟨b, o, none⟩) (k + 16) l) ∧ Hid (RB wr (some ⟨g, 0, none⟩) (k + 16) (inL k)) ∧ Hid (Below w.heap.size w wr)) (fun i _ => k + 16 - (intOf i).toNat)
  case atStart => exact ⟨0, Nat.zero_le _, rfl, HBB, HR, HB⟩
  clear HBB HR HB
  case round =>
    obtain ⟨j, hj, rfl, HBB, HR, HB⟩ := hrel
    by_cases hlt : j < k + 16
    · obtain ⟨x, hx⟩ : ∃ x, l[j]? = some x := ⟨_, List.getElem?_eq_getElem (by rw [← HBB.out.1]; omega)⟩
      obtain ⟨b3, o3, hA3, hb3, c1⟩ := HBB.out.get j x hx
      obtain ⟨b2, o2, hA2, hb2, c2⟩ := HR.out.get j x (by rw [← HD.out j hlt]; exact hx)
      cases hA2; cases hA3
      rw [Nat.zero_add] at c2
      have hkn : j < k + 16 := by omega
      clear hx hb2 hb3
      go_wp2_with fail
      go_quiet (fail)
      go_wp2_with fail
      go_roundw
      case rel => exact ⟨j + 1, by omega, by go_num, HBB.out.drewN _, HR.out.drewN _, below_drewN HB.out _⟩
      case measure => simp [intOf]; omega
    · obtain rfl : j = k + 16 := by omega
      go_wp2_with fail
      go_ret2
      exact ⟨rfl, HB.out⟩

set_option maxHeartbeats 3200000 in
theorem rcheck_in_bad (A : Option Addr) (k c : Nat) (l : List Int) (w : World) (h : RB w A (k + 16) l) (h1 : 1 ≤ k) (h2 : k ≤ 1024) (p : Nat) (hp : p < k + 16) (hd : ∀ j, j < p → l[j]? = (inL k)[j]?) (hne : l[p]? ≠ (inL k)[p]?) :
    Calls Try.prog 15 #[.slice A (k + 16) c, .bool false] w fun e w' => e = .returned (.tuple #[.int .i64 (p : Int), .int .i64 180]) ∧ Below w.heap.size w w' := by
  have HH := hid h; have HD := hid hd; have HNE := hid hne
  obtain ⟨b, o, rfl, hbl, -⟩ := h.2.2 (by omega)
  clear h hd hne
  have e1 : ((k + 16 : Nat) : Int) - 16 = (k : Int) := by omega
  have e2 : ((k + 16 : Nat) : Int) - 8 = ((8 + k : Nat) : Int) := by omega
  have t1 : ¬ k + 16 < 17 := by omega
  have t2 : ¬ 1040 < k + 16 := by omega
  go_enter Try.func15, Try.ntmps15
  go_wp2_with fail
  refine (rlaid_any k 187 107 165 _ h2).mono ?_
  rintro e w1 ⟨v, rfl, hv, hb⟩
  rw [refL_in k h1] at hv
  obtain ⟨g, c1, cur, rfl, -, -, -, -, -, -⟩ := hv.head (by rw [inL_length]; omega)
  obtain ⟨_, N1, _, hv1, n1, n2, n3, hr⟩ := hv.rb
  cases hv1
  have HB := hid hb
  have HR := hid hr; have HBB := hid (HH.out.below hb)
  simp only [inL_length] at HR n2 n3 ⊢
  clear hv hb hr n1
  go_wp2_with fail
  go_loopw [7] (fun i wr => ∃ j : Nat, j ≤ p ∧ i = .int .i64 j ∧ Hid (RB wr (some ⟨b, o, none⟩) (k + 16) l) ∧ Hid (RB wr (some ⟨g, 0, none⟩) (k + 16) (inL k)) ∧ Hid (Below w.heap.size w wr)) (fun i _ => k + 16 - (intOf i).toNat)
  case atStart => exact ⟨0, Nat.zero_le _, rfl, HBB, HR, HB⟩
  clear HBB HR HB
  case round =>
    obtain ⟨j, hj, rfl, HBB, HR, HB⟩ := hrel
    by_cases hlt : j < p
    · obtain ⟨x, hx⟩ : ∃ x, l[j]? = some x := ⟨_, List.getElem?_eq_getElem (by rw [← HBB.out.1]; omega)⟩
      obtain ⟨b3, o3, hA3, hb3, c1⟩ := HBB.out.get j x hx
      obtain ⟨b2, o2, hA2, hb2, c2⟩ := HR.out.get j x (by rw [← HD.out j hlt]; exact hx)
      cases hA2; cases hA3
      rw [Nat.zero_add] at c2
      have hkn : j < k + 16 := by omega
      clear hx hb2 hb3
      go_wp2_with fail
      go_quiet (fail)
      go_wp2_with fail
      go_roundw
      case rel => exact ⟨j + 1, by omega, by go_num, HBB.out.drewN _, HR.out.drewN _, below_drewN HB.out _⟩
      case measure => simp [intOf]; omega
    · obtain rfl : j = p := by omega
      obtain ⟨x, hx⟩ : ∃ x, l[j]? = some x := ⟨_, List.getElem?_eq_getElem (by rw [← HBB.out.1]; omega)⟩
      obtain ⟨y, hy⟩ : ∃ y, (inL k)[j]? = some y := ⟨_, List.getElem?_eq_getElem (by rw [← HR.out.1]; omega)⟩
      obtain ⟨b3, o3, hA3, hb3, c1⟩ := HBB.out.get j x hx
      obtain ⟨b2, o2, hA2, hb2, c2⟩ := HR.out.get j y hy
      cases hA2; cases hA3
      rw [Nat.zero_add] at c2
      have hxy : (x == y) = false := by rw [beq_eq_false_iff_ne]; rintro rfl; exact HNE.out (hx.trans hy.symm)
      have hkn : j < k + 16 := by omega
      clear hx hy hb2 hb3
      go_wp2_with fail
      go_quiet (fail)
      go_wp2_with fail
      go_ret2
      exact ⟨rfl, below_drewN HB.out _⟩

set_option maxHeartbeats 3200000 in
theorem rcheck_out_ok (A : Option Addr) (k c : Nat) (l : List Int) (w : World) (h : RB w A (k + 16) l) (h1 : 1 ≤ k) (h2 : k ≤ 1024) (hc : k + 16 ≤ c) (hd : ∀ j, j < k + 16 → l[j]? = (outL k l)[j]?) :
    Calls Try.prog 15 #[.slice A (k + 16) c, .bool true] w fun e w' => e = .returned (.tuple #[.int .i64 0, .int .i64 0]) ∧ Below w.heap.size w w' := by
  have HH := hid h; have HD := hid hd
  obtain ⟨b, o, rfl, hbl, -⟩ := h.2.2 (by omega)
  clear h hd
  have e1 : ((k + 16 : Nat) : Int) - 16 = (k : Int) := by omega
  have e2 : ((k + 16 : Nat) : Int) - 8 = ((8 + k : Nat) : Int) := by omega
  have t1 : ¬ k + 16 < 17 := by omega
  have t2 : ¬ 1040 < k + 16 := by omega
  go_enter Try.func15, Try.ntmps15
  go_wp2_with fail
  refine (rlaid_any k 187 107 165 _ h2).mono ?_
  rintro e w1 ⟨v, rfl, hv, hb⟩
  clear hv
  have HBB1 := hid (HH.out.below hb)
  have HB1 := hid hb; clear hb
  go_wp2_with fail
  refine (rlaid_any k 204 0 0 _ h2).mono ?_
  rintro e w2 ⟨v2, rfl, hv, hb⟩
  rw [refL_laid] at hv
  obtain ⟨g, c1, cur, rfl, hg1, hg, n2, n3, hcl, htk⟩ := hv.head (by rw [laidL_length]; omega)
  have HB2 := hid (HB1.out.trans (hb.mono HB1.out.size))
  have HBB2 := hid (HBB1.out.below hb)
  have hgw : w.heap.size ≤ g := Nat.le_trans HB1.out.size hg1
  simp only [laidL_length] at hcl htk n2 n3 ⊢
  have HG := hid hg; have HT := hid htk; have HC := hid hcl
  have u1 : ¬ c1 = 8 := by omega
  have u2 : ¬ c = 8 := by omega
  have e3 : IntKind.i64.wrap ((k : Int) + 16 - 8) = ((8 + k : Nat) : Int) := by rw [show (k : Int) + 16 - 8 = ((8 + k : Nat) : Int) by omega]; exact IntWalk.i64_in _ (by omega)
  have i0 : (0 : Int) ≤ 8 + (k : Int) := by omega
  have i1 : (8 : Int) + (k : Int) ≤ (c1 : Int) := by omega
  have i2 : (8 : Int) + (k : Int) ≤ (c : Int) := by omega
  have i3 : (8 : Int) ≤ max (8 + (k : Int)) 0 := by omega
  have i4 : (8 + (k : Int)).toNat - 8 = k := by omega
  have hlen : l.length = k + 16 := HH.out.1.symm
  have H1 : Hid ((cellsU ((l.drop 8).take k)).length = Nat.min k k) := hid (by simp [cellsU, hlen])
  have H2 : Src w2 (some ⟨g, 8, none⟩) (some ⟨b, o + 8, none⟩) g 8 (cellsU ((l.drop 8).take k)) := by
    refine fun _ => ⟨rfl, _, rfl, fun j v hj => ?_⟩
    have hjk : j < k := by
      have := (List.getElem?_eq_some_iff.1 hj).1
      simp [cellsU] at this; omega
    obtain ⟨x, hx⟩ : ∃ x, l[8 + j]? = some x := ⟨_, List.getElem?_eq_getElem (by omega)⟩
    obtain ⟨b4, o4, hA4, -, hcc⟩ := HBB2.out.get (8 + j) x hx
    cases hA4
    have hv : v = .int .u8 x := by
      simp only [cellsU, List.getElem?_map, List.getElem?_take_of_lt hjk, List.getElem?_drop, hx] at hj
      simpa using hj.symm
    subst hv
    have : (⟨b, o + 8, none⟩ : Addr).add j = ⟨b, o + (8 + j), none⟩ := by unfold Addr.add; split <;> simp_all <;> omega
    rw [this]
    exact hcc
  have H3 : Hid (8 + (cellsU ((l.drop 8).take k)).length ≤ cur.toList.length) := hid (by simp [cellsU, hlen]; simp at hcl; omega)
  have H4 : Hid (∀ v ∈ cellsU ((l.drop 8).take k), v.oneCell' = true) := hid (cellsU_one _)
  clear hv hb hg htk hcl hlen
  go_wp2_with fail
  go_region_law (refine step_copy_splice rfl (.tmp 29) (.tmp 34) 22 22 rfl 5 Try.underlying22 size5 (some ⟨g, 8, none⟩) (some ⟨b, o + 8, none⟩) k (c1 - 8) k (c - 8) (by simp [Act.eval, Act.put]) (by simp [Act.eval, Act.put]) g 8 cur.toList 5 HG.out (cellsU ((l.drop 8).take k)) H1.out H2 H3.out H4.out w.heap.size w HB2.out.drew hgw ?_; intro w3 hg3 hb3)
  have HB := hid hb3
  have HBB : Hid (RB w3 (some ⟨b, o, none⟩) (k + 16) l) := hid ⟨HBB2.out.1, (HH.out.2.below hb3)⟩
  have HR : Hid (RB w3 (some ⟨g, 0, none⟩) (k + 16) (outL k l)) := by
    have hlen : l.length = k + 16 := HH.out.1.symm
    have := rb_spliced (k := k) HC.out (laidL_length k 204 0).symm HT.out hg3.out (by simp [hlen]) (by omega)
    rw [outL_spliced k l] at this
    exact this
  clear hg3 hb3 H1 H2 H3 H4 HG HT HC HB1 HB2 HBB1 HBB2 u1 u2
  try simp only [Act.put]
  try go_simp
  go_wp2_with fail
  go_loopw [7] (fun i wr => ∃ j : Nat, j ≤ k + 16 ∧ i = .int .i64 j ∧ Hid (RB wr (some ⟨b, o, none⟩) (k + 16) l) ∧ Hid (RB wr (some ⟨g, 0, none⟩) (k + 16) (outL k l)) ∧ Hid (Below w.heap.size w wr)) (fun i _ => k + 16 - (intOf i).toNat)
  case atStart => exact ⟨0, Nat.zero_le _, rfl, HBB, HR, HB⟩
  clear HBB HR HB
  case round =>
    obtain ⟨j, hj, rfl, HBB, HR, HB⟩ := hrel
    by_cases hlt : j < k + 16
    · obtain ⟨x, hx⟩ : ∃ x, l[j]? = some x := ⟨_, List.getElem?_eq_getElem (by rw [← HBB.out.1]; omega)⟩
      obtain ⟨b3, o3, hA3, hb3, c1⟩ := HBB.out.get j x hx
      obtain ⟨b2, o2, hA2, hb2, c2⟩ := HR.out.get j x (by rw [← HD.out j hlt]; exact hx)
      cases hA2; cases hA3
      rw [Nat.zero_add] at c2
      have hkn : j < k + 16 := by omega
      clear hx hb2 hb3
      go_wp2_with fail
      go_quiet (fail)
      go_wp2_with fail
      go_roundw
      case rel => exact ⟨j + 1, by omega, by go_num, HBB.out.drewN _, HR.out.drewN _, below_drewN HB.out _⟩
      case measure => simp [intOf]; omega
    · obtain rfl : j = k + 16 := by omega
      go_wp2_with fail
      go_ret2
      exact ⟨rfl, HB.out⟩

set_option maxHeartbeats 3200000 in
theorem rcheck_out_bad (A : Option Addr) (k c : Nat) (l : List Int) (w : World) (h : RB w A (k + 16) l) (h1 : 1 ≤ k) (h2 : k ≤ 1024) (hc : k + 16 ≤ c) (p : Nat) (hp : p < k + 16) (hd : ∀ j, j < p → l[j]? = (outL k l)[j]?) (hne : l[p]? ≠ (outL k l)[p]?) :
    Calls Try.prog 15 #[.slice A (k + 16) c, .bool true] w fun e w' => e = .returned (.tuple #[.int .i64 (p : Int), .int .i64 180]) ∧ Below w.heap.size w w' := by
  have HH := hid h; have HD := hid hd; have HNE := hid hne
  obtain ⟨b, o, rfl, hbl, -⟩ := h.2.2 (by omega)
  clear h hd hne
  have e1 : ((k + 16 : Nat) : Int) - 16 = (k : Int) := by omega
  have e2 : ((k + 16 : Nat) : Int) - 8 = ((8 + k : Nat) : Int) := by omega
  have t1 : ¬ k + 16 < 17 := by omega
  have t2 : ¬ 1040 < k + 16 := by omega
  go_enter Try.func15, Try.ntmps15
  go_wp2_with fail
  refine (rlaid_any k 187 107 165 _ h2).mono ?_
  rintro e w1 ⟨v, rfl, hv, hb⟩
  clear hv
  have HBB1 := hid (HH.out.below hb)
  have HB1 := hid hb; clear hb
  go_wp2_with fail
  refine (rlaid_any k 204 0 0 _ h2).mono ?_
  rintro e w2 ⟨v2, rfl, hv, hb⟩
  rw [refL_laid] at hv
  obtain ⟨g, c1, cur, rfl, hg1, hg, n2, n3, hcl, htk⟩ := hv.head (by rw [laidL_length]; omega)
  have HB2 := hid (HB1.out.trans (hb.mono HB1.out.size))
  have HBB2 := hid (HBB1.out.below hb)
  have hgw : w.heap.size ≤ g := Nat.le_trans HB1.out.size hg1
  simp only [laidL_length] at hcl htk n2 n3 ⊢
  have HG := hid hg; have HT := hid htk; have HC := hid hcl
  have u1 : ¬ c1 = 8 := by omega
  have u2 : ¬ c = 8 := by omega
  have e3 : IntKind.i64.wrap ((k : Int) + 16 - 8) = ((8 + k : Nat) : Int) := by rw [show (k : Int) + 16 - 8 = ((8 + k : Nat) : Int) by omega]; exact IntWalk.i64_in _ (by omega)
  have i0 : (0 : Int) ≤ 8 + (k : Int) := by omega
  have i1 : (8 : Int) + (k : Int) ≤ (c1 : Int) := by omega
  have i2 : (8 : Int) + (k : Int) ≤ (c : Int) := by omega
  have i3 : (8 : Int) ≤ max (8 + (k : Int)) 0 := by omega
  have i4 : (8 + (k : Int)).toNat - 8 = k := by omega
  have hlen : l.length = k + 16 := HH.out.1.symm
  have H1 : Hid ((cellsU ((l.drop 8).take k)).length = Nat.min k k) := hid (by simp [cellsU, hlen])
  have H2 : Src w2 (some ⟨g, 8, none⟩) (some ⟨b, o + 8, none⟩) g 8 (cellsU ((l.drop 8).take k)) := by
    refine fun _ => ⟨rfl, _, rfl, fun j v hj => ?_⟩
    have hjk : j < k := by
      have := (List.getElem?_eq_some_iff.1 hj).1
      simp [cellsU] at this; omega
    obtain ⟨x, hx⟩ : ∃ x, l[8 + j]? = some x := ⟨_, List.getElem?_eq_getElem (by omega)⟩
    obtain ⟨b4, o4, hA4, -, hcc⟩ := HBB2.out.get (8 + j) x hx
    cases hA4
    have hv : v = .int .u8 x := by
      simp only [cellsU, List.getElem?_map, List.getElem?_take_of_lt hjk, List.getElem?_drop, hx] at hj
      simpa using hj.symm
    subst hv
    have : (⟨b, o + 8, none⟩ : Addr).add j = ⟨b, o + (8 + j), none⟩ := by unfold Addr.add; split <;> simp_all <;> omega
    rw [this]
    exact hcc
  have H3 : Hid (8 + (cellsU ((l.drop 8).take k)).length ≤ cur.toList.length) := hid (by simp [cellsU, hlen]; simp at hcl; omega)
  have H4 : Hid (∀ v ∈ cellsU ((l.drop 8).take k), v.oneCell' = true) := hid (cellsU_one _)
  clear hv hb hg htk hcl hlen
  go_wp2_with fail
  go_region_law (refine step_copy_splice rfl (.tmp 29) (.tmp 34) 22 22 rfl 5 Try.underlying22 size5 (some ⟨g, 8, none⟩) (some ⟨b, o + 8, none⟩) k (c1 - 8) k (c - 8) (by simp [Act.eval, Act.put]) (by simp [Act.eval, Act.put]) g 8 cur.toList 5 HG.out (cellsU ((l.drop 8).take k)) H1.out H2 H3.out H4.out w.heap.size w HB2.out.drew hgw ?_; intro w3 hg3 hb3)
  have HB := hid hb3
  have HBB : Hid (RB w3 (some ⟨b, o, none⟩) (k + 16) l) := hid ⟨HBB2.out.1, (HH.out.2.below hb3)⟩
  have HR : Hid (RB w3 (some ⟨g, 0, none⟩) (k + 16) (outL k l)) := by
    have hlen : l.length = k + 16 := HH.out.1.symm
    have := rb_spliced (k := k) HC.out (laidL_length k 204 0).symm HT.out hg3.out (by simp [hlen]) (by omega)
    rw [outL_spliced k l] at this
    exact this
  clear hg3 hb3 H1 H2 H3 H4 HG HT HC HB1 HB2 HBB1 HBB2 u1 u2
  try simp only [Act.put]
  try go_simp
  go_wp2_with fail
  go_loopw [7] (fun i wr => ∃ j : Nat, j ≤ p ∧ i = .int .i64 j ∧ Hid (RB wr (some ⟨b, o, none⟩) (k + 16) l) ∧ Hid (RB wr (some ⟨g, 0, none⟩) (k + 16) (outL k l)) ∧ Hid (Below w.heap.size w wr)) (fun i _ => k + 16 - (intOf i).toNat)
  case atStart => exact ⟨0, Nat.zero_le _, rfl, HBB, HR, HB⟩
  clear HBB HR HB
  case round =>
    obtain ⟨j, hj, rfl, HBB, HR, HB⟩ := hrel
    by_cases hlt : j < p
    · obtain ⟨x, hx⟩ : ∃ x, l[j]? = some x := ⟨_, List.getElem?_eq_getElem (by rw [← HBB.out.1]; omega)⟩
      obtain ⟨b3, o3, hA3, hb3, c1⟩ := HBB.out.get j x hx
      obtain ⟨b2, o2, hA2, hb2, c2⟩ := HR.out.get j x (by rw [← HD.out j hlt]; exact hx)
      cases hA2; cases hA3
      rw [Nat.zero_add] at c2
      have hkn : j < k + 16 := by omega
      clear hx hb2 hb3
      go_wp2_with fail
      go_quiet (fail)
      go_wp2_with fail
      go_roundw
      case rel => exact ⟨j + 1, by omega, by go_num, HBB.out.drewN _, HR.out.drewN _, below_drewN HB.out _⟩
      case measure => simp [intOf]; omega
    · obtain rfl : j = p := by omega
      obtain ⟨x, hx⟩ : ∃ x, l[j]? = some x := ⟨_, List.getElem?_eq_getElem (by rw [← HBB.out.1]; omega)⟩
      obtain ⟨y, hy⟩ : ∃ y, (outL k l)[j]? = some y := ⟨_, List.getElem?_eq_getElem (by rw [← HR.out.1]; omega)⟩
      obtain ⟨b3, o3, hA3, hb3, c1⟩ := HBB.out.get j x hx
      obtain ⟨b2, o2, hA2, hb2, c2⟩ := HR.out.get j y hy
      cases hA2; cases hA3
      rw [Nat.zero_add] at c2
      have hxy : (x == y) = false := by rw [beq_eq_false_iff_ne]; rintro rfl; exact HNE.out (hx.trans hy.symm)
      have hkn : j < k + 16 := by omega
      clear hx hy hb2 hb3
      go_wp2_with fail
      go_quiet (fail)
      go_wp2_with fail
      go_ret2
      exact ⟨rfl, below_drewN HB.out _⟩
end Go.Proofs.Ytfnnfnklhejlmaa
