/- the law SegsAdds as a call. -/
import Derived.Test.YtkkbgohijokbhaaQ
import Derived.Lib.QuietBelow
namespace Go.Proofs.Ytkkbgohijokbhaa
open Go.RowKit Go.Sort

theorem add_cases {L : List Gr.Rec} {x : Gr.Rec} (h : Gr.check L = 0) (hl : L.length < 256) : (Gr.add L x = (L ++ [x], 0) ∧ Gr.check (L ++ [x]) = 0) ∨ Gr.add L x = ([], 2) := by
  rcases radd_ok (x := x) h (by omega) with h0 | h0
  · exact .inl ⟨add_ok h (by omega) h0, h0⟩
  · exact .inr (by rw [add_off h (by omega) (by rw [h0]; decide), h0])
theorem next_first {L : List Gr.Rec} {y : Gr.Rec} (h : Gr.check L = 0) (hy : L[0]? = some y) : Gr.next L = y.2 := by
  cases L with
  | nil => simp at hy
  | cons z L =>
    simp at hy
    subst hy
    unfold Gr.next
    rw [if_neg (by simp [h])]

set_option maxHeartbeats 3200000 in
set_option maxRecDepth 100000 in
theorem segsAdds_any (A : Option Addr) (n c : Nat) (l : List Gr.Rec) (w : World) (h : RD w A n l) (_hnc : n ≤ c) (_hm : n ≤ maxLen) :
    Calls Try.prog 9 #[.slice A n c] w fun e w' => e = .returned (.bool true) ∧ Below w.heap.size w w' := by
  have H := hid h; have HL := hid h.1
  clear h
  have hm := _hm; unfold maxLen at hm
  go_enter Try.func9, Try.ntmps9
  go_wp2_with fail
  go_loopw [3, 4] (fun v i wr => ∃ (k : Nat) (L : List Gr.Rec) (B : Option Addr) (N d : Nat), k ≤ n ∧ k ≤ 100 ∧ i = .int .i64 k ∧ v = .slice B N d ∧ Hid (N ≤ d ∧ d ≤ maxLen) ∧ N ≤ k ∧ Hid (RD wr B N L) ∧ Hid (Gr.check L = 0) ∧ Below w.heap.size w wr)
    (fun _ i _ => n - (intOf i).toNat)
  case atStart => exact ⟨0, [], none, 0, 0, Nat.zero_le _, Nat.zero_le _, rfl, rfl, hid ⟨Nat.le_refl _, Nat.zero_le _⟩, Nat.le_refl _, hid (RD.nil _ _), hid rfl, Below.refl _ _⟩
  case round =>
    obtain ⟨k, L, B, N, d, hk, hk100, rfl, rfl, hNd, hNk, HR, HC, hb⟩ := hrel
    by_cases hlt : k < n ∧ k < 100
    · obtain ⟨hlt, hlt100⟩ := hlt
      obtain ⟨⟨i1, t1⟩, hx⟩ : ∃ x, l[k]? = some x := ⟨_, List.getElem?_eq_getElem (by rw [← HL.out]; exact hlt)⟩
      obtain ⟨b, o, rfl, hbo, c1, c2⟩ := H.out.get k _ hx
      have d1 := (hb.cell (p := ⟨b, o + k * 2, none⟩) hbo).trans c1
      have d2 := (hb.cell (p := ⟨b, o + k * 2 + 1, none⟩) hbo).trans c2
      simp only at d1 d2
      have HB := hid hb
      have HLN : Hid (L.length < 256) := hid (by rw [← HR.out.1]; omega)
      clear c1 c2 hx hb
      rcases add_cases (x := (i1, t1)) HC.out HLN.out with ⟨ha, hc⟩ | ha
      · have HA := hid ha; have HC2 := hid hc; clear ha hc
        go_wp2_with fail
        refine (add_at _ 0 B N d L i1 t1 _ HR.out (Nat.le_trans hNd.out.1 hNd.out.2) HA.out).mono ?_
        rintro e w2 ⟨v2, rfl, ⟨A2, N2, c2, rfl, hc2, hm2, hr2⟩, hb2⟩
        obtain rfl : N2 = N + 1 := by rw [hr2.1, HR.out.1]; simp
        obtain ⟨⟨iy, ty⟩, hy⟩ : ∃ y, (L ++ [(i1, t1)])[0]? = some y := ⟨_, List.getElem?_eq_getElem (by simp)⟩
        obtain ⟨b2, o2, rfl, hbo2, q1, q2⟩ := hr2.rd.get 0 _ hy
        simp only [Nat.zero_mul, Nat.add_zero] at q1 q2
        have HN := hid (next_first HC2.out hy)
        have HR2 := hid hr2.rd; have HB2 := hid (below_trans' HB.out hb2); have HM2 := hid hm2; have HN2 := hid (Nat.le_trans hc2 hm2); have HNC := hid hc2
        clear hr2 hb2 hm2 hy q1 d1 d2
        go_wp2_with fail
        have cC : ∀ x os, Calls Try.prog 15 #[.slice (some ⟨b2, o2, none⟩) (N + 1) c2] (grow (redrawn w2 x) os) fun e w'' => e = .returned (.int .i64 0) ∧ ∃ p : Regrown, w'' = grow (redrawn w2 p.d) p.os := fun x os => Calls.regrown_of (check_at 0 _ _ _ _ _ (HR2.out.below (below_regrown w2 x os)) HN2.out HC2.out)
        have cN : ∀ x os, Calls Try.prog 17 #[.slice (some ⟨b2, o2, none⟩) (N + 1) c2] (grow (redrawn w2 x) os) fun e w'' => e = .returned (.int .i64 ty) ∧ ∃ p : Regrown, w'' = grow (redrawn w2 p.d) p.os := fun x os => Calls.regrown_of (next_at ty _ _ _ _ _ (HR2.out.below (below_regrown w2 x os)) HN2.out HN.out)
        have CC := hid cC; have CN := hid cN; clear cC cN
        have k2 := cell_regrown q2
        have b1 : decide ((0 : Int) < ((N + 1 : Nat) : Int)) = true := decide_eq_true (by omega)
        have b1' : decide (0 < N + 1) = true := decide_eq_true (by omega)
        have b2' : (((N + 1 : Nat) : Int) == 0) = false := by rw [beq_eq_false_iff_ne]; omega
        have b3 : (0 : Int) < ((N + 1 : Nat) : Int) := by omega
        have b3' : 0 < N + 1 := by omega
        clear q2
        refine wp_region_quiet_below (by kernel_rfl) (by kernel_rfl) ?_
        repeat (first | go_big_quiet_step (first | exact CC.out _ _ | exact CN.out _ _) | quiet_step (first | exact CC.out _ _ | exact CN.out _ _))
        refine wpQuiet_nil ?_
        intro _ hw'
        obtain ⟨⟨dq, osq⟩, hw''⟩ := hw'
        subst hw''
        clear k2 b1 b1' b2'
        go_wp2
        go_roundw
        case rel => exact ⟨k + 1, _, _, _, _, by omega, by omega, by go_num, rfl, hid ⟨HNC.out, HM2.out⟩, by omega, hid (HR2.out.below (below_regrown w2 dq osq)), HC2, HB2.out.trans ((below_regrown w2 dq osq).mono HB2.out.size)⟩
        case measure => simp [intOf]; omega
      · have HA := hid ha; clear ha
        go_wp2_with fail
        refine (add_at _ 2 B N d L i1 t1 _ HR.out (Nat.le_trans hNd.out.1 hNd.out.2) HA.out).mono ?_
        rintro e w2 ⟨v2, rfl, ⟨A2, N2, c2, rfl, hc2, hm2, hr2⟩, hb2⟩
        obtain rfl : N2 = 0 := hr2.1
        have HR2 := hid (HR.out.below hb2); have HB2 := hid (below_trans' HB.out hb2); have HN2 := hid (Nat.le_trans hNd.out.1 hNd.out.2); have HC2 := HC
        clear hr2 hb2 hm2 d1 d2
        cases L with
        | nil =>
        obtain rfl : N = 0 := HR.out.1
        have HN : Hid (Gr.next [] = 0) := hid rfl
        go_wp2_with fail
        have cC : ∀ x os, Calls Try.prog 15 #[.slice B 0 d] (grow (redrawn w2 x) os) fun e w'' => e = .returned (.int .i64 0) ∧ ∃ p : Regrown, w'' = grow (redrawn w2 p.d) p.os := fun x os => Calls.regrown_of (check_at 0 _ _ _ _ _ (HR2.out.below (below_regrown w2 x os)) HN2.out HC2.out)
        have cN : ∀ x os, Calls Try.prog 17 #[.slice B 0 d] (grow (redrawn w2 x) os) fun e w'' => e = .returned (.int .i64 0) ∧ ∃ p : Regrown, w'' = grow (redrawn w2 p.d) p.os := fun x os => Calls.regrown_of (next_at 0 _ _ _ _ _ (HR2.out.below (below_regrown w2 x os)) HN2.out HN.out)
        have CC := hid cC; have CN := hid cN; clear cC cN
        refine wp_region_quiet_below (by kernel_rfl) (by kernel_rfl) ?_
        repeat (first | go_big_quiet_step (first | exact CC.out _ _ | exact CN.out _ _) | quiet_step (first | exact CC.out _ _ | exact CN.out _ _))
        refine wpQuiet_nil ?_
        intro _ hw'
        obtain ⟨⟨dq, osq⟩, hw''⟩ := hw'
        subst hw''
        go_wp2
        go_roundw
        case rel => exact ⟨k + 1, _, _, _, _, by omega, by omega, by go_num, rfl, hid ⟨hNd.out.1, hNd.out.2⟩, by omega, hid (HR2.out.below (below_regrown w2 dq osq)), HC2, HB2.out.trans ((below_regrown w2 dq osq).mono HB2.out.size)⟩
        case measure => simp [intOf]; omega
        | cons y L =>
        obtain ⟨iy, ty⟩ := y
        obtain ⟨b2, o2, rfl, hbo2, q1, q2⟩ := HR2.out.get 0 (iy, ty) rfl
        simp only [Nat.zero_mul, Nat.add_zero] at q1 q2
        have HN := hid (next_first (y := (iy, ty)) HC2.out rfl)
        have hpos : 0 < N := by rw [HR.out.1]; simp
        clear q1
        go_wp2_with fail
        have cC : ∀ x os, Calls Try.prog 15 #[.slice (some ⟨b2, o2, none⟩) N d] (grow (redrawn w2 x) os) fun e w'' => e = .returned (.int .i64 0) ∧ ∃ p : Regrown, w'' = grow (redrawn w2 p.d) p.os := fun x os => Calls.regrown_of (check_at 0 _ _ _ _ _ (HR2.out.below (below_regrown w2 x os)) HN2.out HC2.out)
        have cN : ∀ x os, Calls Try.prog 17 #[.slice (some ⟨b2, o2, none⟩) N d] (grow (redrawn w2 x) os) fun e w'' => e = .returned (.int .i64 ty) ∧ ∃ p : Regrown, w'' = grow (redrawn w2 p.d) p.os := fun x os => Calls.regrown_of (next_at ty _ _ _ _ _ (HR2.out.below (below_regrown w2 x os)) HN2.out HN.out)
        have CC := hid cC; have CN := hid cN; clear cC cN
        have k2 := cell_regrown q2
        have b1 : decide ((0 : Int) < (N : Int)) = true := decide_eq_true (by omega)
        have b1' : decide (0 < N) = true := decide_eq_true (by omega)
        have b2' : ((N : Int) == 0) = false := by rw [beq_eq_false_iff_ne]; omega
        have b3 : (0 : Int) < (N : Int) := by omega
        clear q2
        refine wp_region_quiet_below (by kernel_rfl) (by kernel_rfl) ?_
        repeat (first | go_big_quiet_step (first | exact CC.out _ _ | exact CN.out _ _) | quiet_step (first | exact CC.out _ _ | exact CN.out _ _))
        refine wpQuiet_nil ?_
        intro _ hw'
        obtain ⟨⟨dq, osq⟩, hw''⟩ := hw'
        subst hw''
        clear k2 b1 b1' b2'
        go_wp2
        go_roundw
        case rel => exact ⟨k + 1, _, _, _, _, by omega, by omega, by go_num, rfl, hid ⟨hNd.out.1, hNd.out.2⟩, by omega, hid (HR2.out.below (below_regrown w2 dq osq)), HC2, HB2.out.trans ((below_regrown w2 dq osq).mono HB2.out.size)⟩
        case measure => simp [intOf]; omega
    · have HB := hid hb
      clear hb
      by_cases h1 : k < n
      · have h2 : 100 ≤ k := by
          rcases Nat.lt_or_ge k 100 with h | h
          · exact absurd ⟨h1, h⟩ hlt
          · exact h
        clear hlt
        go_wp2_with fail
        refine (works_any _).mono ?_
        rintro e wz ⟨rfl, hbz⟩
        have HBZ := hid hbz; clear hbz
        go_wp2_with fail
        go_ret
        exact ⟨rfl, below_trans' HB.out HBZ.out⟩
      · clear hlt
        go_wp2_with fail
        refine (works_any _).mono ?_
        rintro e wz ⟨rfl, hbz⟩
        have HBZ := hid hbz; clear hbz
        go_wp2_with fail
        go_ret
        exact ⟨rfl, below_trans' HB.out HBZ.out⟩
end Go.Proofs.Ytkkbgohijokbhaa
