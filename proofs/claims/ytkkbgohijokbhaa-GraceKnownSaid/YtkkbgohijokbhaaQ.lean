/- the law SegsTwice as a call. -/
import Derived.Test.YtkkbgohijokbhaaP
namespace Go.Proofs.Ytkkbgohijokbhaa
open Go.RowKit

theorem cut_unique {l : List Gr.Rec} {d : Int} {p q : Nat} (hp : p ≤ l.length) (hq : q ≤ l.length) (h1 : ∀ i (hi : i < l.length), i < p → (l[i]).2 ≤ d) (h2 : ∀ i (hi : i < l.length), p ≤ i → d < (l[i]).2)
    (g1 : ∀ i (hi : i < l.length), i < q → (l[i]).2 ≤ d) (g2 : ∀ i (hi : i < l.length), q ≤ i → d < (l[i]).2) : p = q := by
  rcases Nat.lt_trichotomy p q with h | h | h
  · have a := h2 p (by omega) (Nat.le_refl _)
    have b := g1 p (by omega) h
    omega
  · exact h
  · have a := g2 q (by omega) (Nat.le_refl _)
    have b := h1 q (by omega) h
    omega

/-- Ready with a number, then of the others with a greater one -/
theorem twice_facts (l : List Gr.Rec) (m M : Int) (hmM : m ≤ M) (h : Gr.check l = 0) : ∃ p s, p + s ≤ l.length ∧ readyAns l m = ((l.take p).map (·.1), l.drop p, 0) ∧
    readyAns (l.drop p) M = (((l.drop p).take s).map (·.1), l.drop (p + s), 0) ∧ readyAns l M = ((l.take p).map (·.1) ++ ((l.drop p).take s).map (·.1), l.drop (p + s), 0) := by
  obtain ⟨p, hp, a1, a2, a3, a4⟩ := Gr.cut_facts l m h
  obtain ⟨q, hq, b1, b2, b3, b4⟩ := Gr.cut_facts l M h
  have hd := Gr.check_drop l p h
  obtain ⟨s, hs, c1, c2, c3, c4⟩ := Gr.cut_facts (l.drop p) M hd
  have hs' : s ≤ l.length - p := by simpa using hs
  have hpq : p + s = q := cut_unique (by omega) hq (fun i hi hip => by
      by_cases h1 : i < p
      · have := a3 i hi h1; omega
      · have := c3 (i - p) (by rw [List.length_drop]; omega) (by omega)
        simp only [List.getElem_drop, show p + (i - p) = i by omega] at this
        exact this) (fun i hi hip => by
      have := c4 (i - p) (by rw [List.length_drop]; omega) (by omega)
      simp only [List.getElem_drop, show p + (i - p) = i by omega] at this
      exact this) b3 b4
  refine ⟨p, s, by omega, ?_, ?_, ?_⟩
  · rw [readyAns_zero h, a1, a2]
  · rw [readyAns_zero hd, c1, c2, List.drop_drop]
  · rw [readyAns_zero h, b1, b2, ← hpq, List.take_add, List.map_append]

theorem twice_lists (l : List Gr.Rec) (m M : Int) (hmM : m ≤ M) (h : Gr.check l = 0) : ∃ (I1 I2 : List Int) (L1 L2 : List Gr.Rec), readyAns l m = (I1, L1, 0) ∧ readyAns L1 M = (I2, L2, 0) ∧ readyAns l M = (I1 ++ I2, L2, 0) ∧
    I1.length + L1.length = l.length ∧ I2.length + L2.length = L1.length := by
  obtain ⟨p, s, hps, r1, r2, r3⟩ := twice_facts l m M hmM h
  exact ⟨_, _, _, _, r1, r2, r3, by simp; omega, by simp; omega⟩

theorem own_apart {w w' : World} {b b' n n' size size' : Nat} {e e' : TypeId} {v v' : Value} {xs xs' : List Value} (h : w.ownsRow b e size v n xs) (_hf : w.ownsRow b' e' size' v' n' xs') (hb : ∀ k, v'.ownBlock = some k → k < b) (hg : w.grownBy w' v'.ownBlock) : w'.ownsRow b e size v n xs := by
  refine h.kept hg ?_
  cases hv : v.ownBlock with
  | none => exact .inl rfl
  | some k =>
    refine .inr fun he => ?_
    have := hb k he.symm
    have := own_lt h k hv
    omega
theorem OwnR.apart {w w' : World} {base b n N size : Nat} {e : TypeId} {A : Option Addr} {l : List Gr.Rec} {v : Value} {xs : List Value} (h : OwnR w base A n l) (hf : w.ownsRow b e size v N xs) (hne : e ≠ 24) (hg : w.grownBy w' v.ownBlock) : OwnR w' base A n l := by
  refine ⟨h.1, fun hn => ?_⟩
  obtain ⟨g, o, cur, he, hgb, hb, hc⟩ := h.2 hn
  refine ⟨g, o, cur, he, hgb, hb.grown hg ?_, hc⟩
  rcases hf.2 with ⟨rfl, _⟩ | ⟨g', cap, cur', rfl, _, hh, _⟩
  · simp [Value.ownBlock]
  · intro hgg
    have : g = g' := by simpa [Value.ownBlock] using hgg
    subst this
    exact Blk.ne_ (t := e) hh hb hne rfl

theorem cellsI_one (l : List Int) : ∀ u ∈ cellsI l, u.oneCell' = true := by
  intro u hu
  simp only [cellsI, List.mem_map] at hu
  obtain ⟨x, _, rfl⟩ := hu
  rfl
theorem cellsI_append (l r : List Int) : cellsI (l ++ r) = cellsI l ++ cellsI r := by simp [cellsI]

set_option maxHeartbeats 3200000 in
set_option maxRecDepth 100000 in
theorem segsTwice_any (A : Option Addr) (n c : Nat) (l : List Gr.Rec) (a b : Int) (w : World) (h : RD w A n l) (_hnc : n ≤ c) (hm : n ≤ maxLen) :
    Calls Try.prog 8 #[.slice A n c, .int .i64 a, .int .i64 b] w fun e w' => e = .returned (.bool true) ∧ Below w.heap.size w w' := by
  obtain ⟨i3, hi3, hz3, hs3, hb3⟩ := info_parts info3
  have H := hid h; have HL := hid h.1; have HM := hid hm
  clear h
  unfold maxLen at hm
  obtain ⟨m, M, hmM, hc⟩ : ∃ m M : Int, m ≤ M ∧ Hid ((a = m ∧ b = M ∧ m < M) ∨ (a = m ∧ b = m ∧ M = m) ∨ (a = M ∧ b = m ∧ m < M)) :=
    ⟨min a b, max a b, by omega, hid (by omega)⟩
  rcases Gr.check_vals l with h0 | h0 | h0
  · have hn : n ≤ 256 := by rw [HL.out]; exact len_of_check h0
    obtain ⟨I1, I2, L1, L2, r1, r2, r3, hl1, hl2⟩ := twice_lists l m M hmM h0
    obtain ⟨p, hp⟩ : ∃ p, p = I1.length := ⟨_, rfl⟩
    obtain ⟨s, hs⟩ : ∃ s, s = I2.length := ⟨_, rfl⟩
    have hpn : p + s ≤ n := by rw [HL.out, hp, hs]; omega
    have HP := hid hp; have HS := hid hs
    have HL1 : Hid (n - p = L1.length) := hid (by rw [HL.out, hp]; omega)
    have HL2 : Hid (n - (p + s) = L2.length) := hid (by rw [HL.out, hp, hs]; omega)
    clear hp hs hl1 hl2
    have R1 := hid r1; have R2 := hid r2; have R3 := hid r3
    clear h0 r1 r2 r3 hmM
    rcases hc.out with ⟨rfl, rfl, hab⟩ | ⟨rfl, rfl, rfl⟩ | ⟨rfl, rfl, hab⟩
    all_goals
      clear hc
      go_enter Try.func8, Try.ntmps8
      go_wp2_with fail
      refine (ready_at _ _ 0 A n c l _ _ H.out HM.out R1.out).mono ?_
      rintro e w1 ⟨v1, u1, rfl, hi1, ⟨A1, N1, c1, rfl, hc1, hm1, hr1⟩, hb1⟩
      obtain rfl : N1 = n - p := by rw [hr1.1, HL1.out]
      have HI1 := hid hi1; have HR1 := hid hr1; have HB1 := hid hb1; have HM1 : Hid (n - p ≤ maxLen) := hid (Nat.le_trans hc1 hm1)
      clear hi1 hr1 hb1 hm1
      go_wp2_with fail
      refine (ready_at _ _ 0 A1 _ c1 _ _ _ HR1.out.rd HM1.out R2.out).mono ?_
      rintro e w2 ⟨v2, u2, rfl, hi2, ⟨A2, N2, c2, rfl, hc2, hm2, hr2⟩, hb2⟩
      obtain rfl : N2 = n - (p + s) := by rw [hr2.1, HL2.out]
      have HI2 := hid hi2; have HR2 := hid hr2; have HB2 := hid hb2; have HM2 : Hid (n - (p + s) ≤ maxLen) := hid (Nat.le_trans hc2 hm2)
      have HX2 := hid (HI1.out.below hb2)
      clear hi2 hr2 hb2 hm2
      go_wp2_with fail
      refine (ready_at _ _ 0 A n c l _ _ (H.out.below (below_trans' HB1.out HB2.out)) HM.out R3.out).mono ?_
      rintro e w3 ⟨v3, u3, rfl, hi3', ⟨A3, N3, c3, rfl, hc3, hm3, hr3⟩, hb3'⟩
      obtain rfl : N3 = n - (p + s) := by rw [hr3.1, HL2.out]
      have HI3 := hid hi3'; have HR3 := hid hr3; have HB3 := hid hb3'
      have HX3 := hid (HX2.out.below hb3')
      have HY3 := hid (HI2.out.below hb3')
      have HL3 := hid (HR2.out.below hb3')
      clear hi3' hr3 hb3' hm3
      obtain ⟨A5, N5, c5, hv2, hN5, hc5, hm5, hr5⟩ := HY3.out.ri
      obtain rfl : N5 = s := by rw [hN5, HS.out]
      subst hv2
      have HM5 := hid hm5; have HRI5 := hid hr5; clear hm5 hN5 hr5
      have HX : Hid (w3.ownsRow w.heap.size 3 1 v1 p (cellsI I1)) := hid (by have := HX3.out; unfold IsInts at this; rw [← HP.out] at this; exact this)
      have HXL : Hid (∀ k, v1.ownBlock = some k → k < w2.heap.size) := hid (fun k hk => (HX2.out.lt k hk).2)
      go_wp2_with (at_builtin; refine wpList_append_any _ rfl (.tmp 52) (.tmp 53) 34 rfl w.heap.size 3 i3 _ 1 8 Try.underlying34 hi3 hz3 hs3 hb3 rfl (by decide) v1 p (cellsI I1) rfl HX.out A5 _ c5 (cellsI I2) rfl HRI5.out.2 (cellsI_one _) (by unfold maxLen; omega) (by omega) (Nat.le_trans HB1.out.size (Nat.le_trans HB2.out.size HB3.out.size)) ?_)
      intro v4 w4 hown4 hg4 _
      have HI4 : Hid (IsInts w4 w.heap.size v4 (I1 ++ I2)) := hid (IsInts.of_own (by rw [cellsI_append]; exact hown4))
      have HA4 : Hid (IsInts w4 w2.heap.size v3 (I1 ++ I2)) := hid (own_apart HI3.out HX.out HXL.out hg4)
      have HL4 := hid (HL3.out.apart HX.out (by decide) hg4)
      have HR4 := hid (HR3.out.apart HX.out (by decide) hg4)
      have HB4 : Hid (Below w.heap.size w w4) := hid (below_own (below_trans' (below_trans' HB1.out HB2.out) HB3.out) HX.out hg4 (Nat.le_trans HB1.out.size (Nat.le_trans HB2.out.size HB3.out.size)) (Nat.le_refl _))
      clear hown4 hg4
      obtain ⟨A6, N6, c6, hv4, -, hc6, hm6, hr6⟩ := HI4.out.ri
      obtain ⟨A7, N7, c7, hv7, -, hc7, hm7, hr7⟩ := HA4.out.ri
      subst hv4 hv7
      have HR6 := hid hr6; have HR7 := hid hr7; clear hr6 hr7
      have hne : (((n - (p + N5) : Nat) : Int) != ((n - (p + N5) : Nat) : Int)) = false := by simp
      go_wp2_with fail
      refine (eqints_at true A6 A7 N6 c6 N7 c7 _ _ _ HR6.out HR7.out (Nat.le_trans hc6 hm6) (Nat.le_trans hc7 hm7) (by simp)).mono ?_
      rintro e w5 ⟨rfl, hb5⟩
      have HL5 := hid (HL4.out.below hb5).rd
      have HR5 := hid (HR4.out.below hb5).rd
      have HB5 := hid (below_trans' HB4.out hb5)
      clear hb5
      go_wp2_with fail
      clear hne
      go_loopw [16] (fun j wr => ∃ k : Nat, k ≤ n - (p + N5) ∧ j = .int .i64 k ∧ Below w5.heap.size w5 wr) (fun j _ => n - (p + N5) - (intOf j).toNat)
      case atStart => exact ⟨0, Nat.zero_le _, rfl, Below.refl _ _⟩
      case round =>
        obtain ⟨k, hk, rfl, hb⟩ := hrel
        have HB := hid hb
        by_cases hlt : k < n - (p + N5)
        · obtain ⟨⟨i1, t1⟩, hx⟩ : ∃ x, L2[k]? = some x := ⟨_, List.getElem?_eq_getElem (by rw [← HL5.out.1]; exact hlt)⟩
          obtain ⟨b1, o1, rfl, hbo1, q1, q2⟩ := HL5.out.get k _ hx
          obtain ⟨b2, o2, rfl, hbo2, q3, q4⟩ := HR5.out.get k _ hx
          have d1 := (hb.cell (p := ⟨b1, o1 + k * 2, none⟩) hbo1).trans q1
          have d2 := (hb.cell (p := ⟨b1, o1 + k * 2 + 1, none⟩) hbo1).trans q2
          have d3 := (hb.cell (p := ⟨b2, o2 + k * 2, none⟩) hbo2).trans q3
          have d4 := (hb.cell (p := ⟨b2, o2 + k * 2 + 1, none⟩) hbo2).trans q4
          simp only at d1 d2 d3 d4
          clear q1 q2 q3 q4 hx hb
          go_wp2
          go_quiet (fail)
          go_wp2
          go_roundw
          case rel => exact ⟨k + 1, by omega, by go_num, below_drewN HB.out _⟩
          case measure => simp [intOf]; omega
        · clear hb
          go_wp2_with fail
          refine (works_any _).mono ?_
          rintro e wz ⟨rfl, hbz⟩
          have HBZ := hid hbz; clear hbz
          go_wp2_with fail
          go_ret
          exact ⟨rfl, below_trans' HB5.out (below_trans' HB.out HBZ.out)⟩
  all_goals
    have HEA := hid (readyAns_bad (d := m) h0 (by decide))
    have HEB := hid (readyAns_bad (d := M) h0 (by decide))
    have HEC : Hid (readyAns [] M = ([], [], 0)) := hid rfl
    clear h0 hmM
    rcases hc.out with ⟨rfl, rfl, hab⟩ | ⟨rfl, rfl, rfl⟩ | ⟨rfl, rfl, hab⟩
    all_goals
      clear hc
      go_enter Try.func8, Try.ntmps8
      go_wp2_with fail
      refine (ready_at _ _ _ A n c l _ _ H.out HM.out HEA.out).mono ?_
      rintro e w1 ⟨v1, u1, rfl, hi1, ⟨A1, N1, c1, rfl, hc1, hm1, hr1⟩, hb1⟩
      obtain rfl : N1 = 0 := hr1.1
      have HR1 := hid hr1; have HB1 := hid hb1
      clear hi1 hr1 hb1 hm1
      go_wp2_with fail
      refine (ready_at [] [] 0 A1 0 c1 [] _ _ HR1.out.rd (Nat.zero_le _) HEC.out).mono ?_
      rintro e w2 ⟨v2, u2, rfl, hi2, ⟨A2, N2, c2, rfl, hc2, hm2, hr2⟩, hb2⟩
      have HB2 := hid hb2
      clear hi2 hr2 hb2 hm2
      go_wp2_with fail
      refine (ready_at _ _ _ A n c l _ _ (H.out.below (below_trans' HB1.out HB2.out)) HM.out HEB.out).mono ?_
      rintro e w3 ⟨v3, u3, rfl, hi3', ⟨A3, N3, c3, rfl, hc3, hm3, hr3⟩, hb3'⟩
      have HB3 := hid hb3'
      clear hi3' hr3 hb3' hm3
      go_wp2_with fail
      refine (works_any _).mono ?_
      rintro e wz ⟨rfl, hbz⟩
      have HBZ := hid hbz; clear hbz
      go_wp2_with fail
      go_ret
      exact ⟨rfl, below_trans' (below_trans' (below_trans' HB1.out HB2.out) HB3.out) HBZ.out⟩
end Go.Proofs.Ytkkbgohijokbhaa
