/- grace.Grace: Quiet. -/
import Derived.Test.YtkkbgohijokbhaaCa
namespace Go.Proofs.Ytkkbgohijokbhaa
open Go.RowKit

theorem quiet_out {s : Gr.St} {c : Int} (h : ¬ (0 ≤ c ∧ c < s.deep.length)) : s.quiet c = (s, 9) := by
  unfold Gr.St.quiet; rw [if_neg (by rw [Gr.has_not h]; decide)]
theorem quiet_deep {s : Gr.St} {k : Nat} (hk : k < s.deep.length) (h : 0 < s.deep.getD k 0) : s.quiet (k : Int) = (s, 292) := by
  unfold Gr.St.quiet; rw [if_pos (Gr.has_nat hk)]; exact if_pos h
theorem quiet_idle {s : Gr.St} {k : Nat} (hk : k < s.deep.length) (h : ¬ 0 < s.deep.getD k 0) (hg : s.going = false) : s.quiet (k : Int) = (s, 0) := by
  unfold Gr.St.quiet; rw [if_pos (Gr.has_nat hk)]
  refine (if_neg h).trans ?_
  rw [hg]; rfl
theorem quiet_more {s : Gr.St} {k : Nat} (hk : k < s.deep.length) (h : ¬ 0 < s.deep.getD k 0) (hg : s.going = true) (ha : (s.needs.set k false).any id = true) : s.quiet (k : Int) = ({ s with needs := s.needs.set k false }, 0) := by
  unfold Gr.St.quiet; rw [if_pos (Gr.has_nat hk)]
  refine (if_neg h).trans ?_
  rw [hg]
  exact if_pos ha
theorem quiet_end {s : Gr.St} {k : Nat} (hk : k < s.deep.length) (h : ¬ 0 < s.deep.getD k 0) (hg : s.going = true) (ha : ¬ (s.needs.set k false).any id = true) :
    s.quiet (k : Int) = (if ({ s with needs := s.needs.set k false, going := false, ended := s.ended + 1 } : Gr.St).later then ({ s with needs := s.needs.set k false, going := false, ended := s.ended + 1 } : Gr.St).begin else { s with needs := s.needs.set k false, going := false, ended := s.ended + 1 }, 0) := by
  unfold Gr.St.quiet; rw [if_pos (Gr.has_nat hk)]
  refine (if_neg h).trans ?_
  rw [hg]
  exact if_neg ha
theorem set_idle {l : List Bool} {k : Nat} (h : ∀ b ∈ l, b = false) (_hk : k < l.length) : l.set k false = l := by
  refine List.ext_getElem (by simp) fun i h1 h2 => ?_
  rw [List.getElem_set]
  split
  · exact (h _ (List.getElem_mem _)).symm
  · rfl

def noNeeds : Value := .agg #[.bool false, .bool false, .bool false, .bool false, .bool false, .bool false, .bool false, .bool false]
theorem guard8 (x y : Array Value) (w : World) : (eqGuard .neq 61 (.tmp 33) (.tmp 34) (.agg x) (.agg y)).run Try.prog w = .ok () w := by kernel_rfl
theorem neq8 (a b c d e f g h : Bool) (w : World) : (binOp .neq 61 (.agg #[.bool a, .bool b, .bool c, .bool d, .bool e, .bool f, .bool g, .bool h]) (.agg #[.bool false, .bool false, .bool false, .bool false, .bool false, .bool false, .bool false, .bool false])).run Try.prog w = .ok (.bool (a || b || c || d || e || f || g || h)) w := by
  cases a <;> cases b <;> cases c <;> cases d <;> cases e <;> cases f <;> cases g <;> cases h <;> kernel_rfl

theorem any8 (l : List Bool) (h : l.length ≤ 8) : l.any id = (l.getD 0 false || l.getD 1 false || l.getD 2 false || l.getD 3 false || l.getD 4 false || l.getD 5 false || l.getD 6 false || l.getD 7 false) := by
  match l, h with
  | [], _ => rfl
  | [a], _ => simp
  | [a, b], _ => simp
  | [a, b, c], _ => simp [Bool.or_assoc]
  | [a, b, c, d], _ => simp [Bool.or_assoc]
  | [a, b, c, d, e], _ => simp [Bool.or_assoc]
  | [a, b, c, d, e, f], _ => simp [Bool.or_assoc]
  | [a, b, c, d, e, f, g], _ => simp [Bool.or_assoc]
  | [a, b, c, d, e, f, g, h'], _ => simp [Bool.or_assoc]
  | a :: b :: c :: d :: e :: f :: g :: h' :: i :: l, h => simp at h

theorem waits_at (b : Bool) (g : Nat) (s : Gr.St) (w : World) (h : GRep w g s) (h1 : 1 ≤ s.deep.length) (h8 : s.deep.length ≤ 8) (hl : s.rows.length = s.deep.length) (hb : s.later = b) :
    Calls Try.prog 55 #[.pointer (some ⟨g, 0, none⟩)] w fun e w' => e = .returned (.bool b) ∧ ∃ m, w' = w.drewN m := by
  subst hb; exact waits_grace g s w h h1 h8 hl

set_option maxHeartbeats 1600000 in
theorem quiet_early (g : Nat) (s : Gr.St) (E c : Int) (w : World) (h : GRep w g s) (ho : Gr.Ok s E) (hc : ¬ (0 ≤ c ∧ c < s.deep.length)) : Calls Try.prog 33 #[.pointer (some ⟨g, 0, none⟩), .int .i64 c] w (Goes w g (s.quiet c)) := by
  have H := hid h
  have hcpu := h.cpus
  have HO := hid hc
  have hp := ho.pos
  clear hc h ho
  go_enter Try.func33, Try.ntmps33
  go_wp2_with fail
  refine (asked_out g _ c _ hcpu hp HO.out).mono ?_
  rintro e w1 ⟨rfl, rfl⟩
  go_wp2_with fail
  go_ret
  rw [quiet_out HO.out]
  exact ⟨rfl, H.out, Fr.refl _ _⟩

set_option maxHeartbeats 1600000 in
theorem quiet_in (g : Nat) (s : Gr.St) (E : Int) (k : Nat) (w : World) (h : GRep w g s) (ho : Gr.Ok s E) (hk : k < s.deep.length) (hp : 0 < s.deep.getD k 0) : Calls Try.prog 33 #[.pointer (some ⟨g, 0, none⟩), .int .i64 (k : Int)] w (Goes w g (s.quiet (k : Int))) := by
  have H := hid h
  have hcpu := h.cpus
  have hk8 : k < 8 := Nat.lt_of_lt_of_le hk ho.le8
  have hd := h.deepAt k hk8
  have HP := hid (quiet_deep hk hp)
  obtain ⟨d, hd'⟩ : ∃ d, d = s.deep.getD k 0 := ⟨_, rfl⟩
  rw [← hd'] at hd hp
  clear hd' h ho
  go_enter Try.func33, Try.ntmps33
  go_wp2_with fail
  refine (asked_ok g _ k _ hcpu hk).mono ?_
  rintro e w1 ⟨rfl, rfl⟩
  go_wp2_with fail
  go_ret
  rw [HP.out]
  exact ⟨rfl, H.out, Fr.refl _ _⟩

set_option maxHeartbeats 1600000 in
theorem quiet_on (g : Nat) (s : Gr.St) (E : Int) (k : Nat) (w : World) (h : GRep w g s) (ho : Gr.Ok s E) (hE : E ≤ 1000000) (hk : k < s.deep.length) (hp : ¬ 0 < s.deep.getD k 0) : Calls Try.prog 33 #[.pointer (some ⟨g, 0, none⟩), .int .i64 (k : Int)] w (Goes w g (s.quiet (k : Int))) := by
  have H := hid h; have HO := hid ho
  have hcpu := h.cpus
  have hk8 : k < 8 := Nat.lt_of_lt_of_le hk ho.le8
  have hkn : k < s.needs.length := by rw [ho.nlen]; exact hk
  have hd := h.deepAt k hk8
  have hf := h.frozen (19 + k)
  have hn := h.needAt k hk8
  have HP := hid hp
  obtain ⟨d, hd'⟩ : ∃ d, d = s.deep.getD k 0 := ⟨_, rfl⟩
  rw [← hd'] at hd hp
  have HE := hid hE
  clear hd' h ho hE
  go_enter Try.func33, Try.ntmps33
  go_wp2_with fail
  refine (asked_ok g _ k _ hcpu hk).mono ?_
  rintro e w1 ⟨rfl, rfl⟩
  go_upto_region 7 with fail
  have HG1 := hid (H.out.setNeed k hkn hk8 false)
  have HF1 := hid ((Fr.refl [g] w).setCell (p := ⟨g, 19 + k, none⟩) (by simp) (.bool false))
  generalize w.setCell ⟨g, 19 + k, none⟩ (.bool false) = w1 at HG1 HF1 ⊢
  clear hn hd hcpu hf
  have hgo := HG1.out.goingAt
  have hend := HG1.out.endedAt
  have hf17 := HG1.out.frozen 17
  have hf18 := HG1.out.frozen 18
  have n0 := HG1.out.needAt 0 (by decide)
  have n1 := HG1.out.needAt 1 (by decide)
  have n2 := HG1.out.needAt 2 (by decide)
  have n3 := HG1.out.needAt 3 (by decide)
  have n4 := HG1.out.needAt 4 (by decide)
  have n5 := HG1.out.needAt 5 (by decide)
  have n6 := HG1.out.needAt 6 (by decide)
  have n7 := HG1.out.needAt 7 (by decide)
  simp only [Nat.reduceAdd] at n0 n1 n2 n3 n4 n5 n6 n7 hgo hend
  have HA := hid (any8 (s.needs.set k false) (by simp only [List.length_set]; have := HO.out.nlen; have := HO.out.le8; omega))
  obtain ⟨b0, h0⟩ : ∃ b, b = (s.needs.set k false).getD 0 false := ⟨_, rfl⟩
  obtain ⟨b1, h1⟩ : ∃ b, b = (s.needs.set k false).getD 1 false := ⟨_, rfl⟩
  obtain ⟨b2, h2⟩ : ∃ b, b = (s.needs.set k false).getD 2 false := ⟨_, rfl⟩
  obtain ⟨b3, h3⟩ : ∃ b, b = (s.needs.set k false).getD 3 false := ⟨_, rfl⟩
  obtain ⟨b4, h4⟩ : ∃ b, b = (s.needs.set k false).getD 4 false := ⟨_, rfl⟩
  obtain ⟨b5, h5⟩ : ∃ b, b = (s.needs.set k false).getD 5 false := ⟨_, rfl⟩
  obtain ⟨b6, h6⟩ : ∃ b, b = (s.needs.set k false).getD 6 false := ⟨_, rfl⟩
  obtain ⟨b7, h7⟩ : ∃ b, b = (s.needs.set k false).getD 7 false := ⟨_, rfl⟩
  rw [← h0] at n0; rw [← h1] at n1; rw [← h2] at n2; rw [← h3] at n3; rw [← h4] at n4; rw [← h5] at n5; rw [← h6] at n6; rw [← h7] at n7
  have HA : Hid ((s.needs.set k false).any id = (b0 || b1 || b2 || b3 || b4 || b5 || b6 || b7)) := by rw [h0, h1, h2, h3, h4, h5, h6, h7]; exact HA
  clear h0 h1 h2 h3 h4 h5 h6 h7
  obtain ⟨d17, hd17⟩ : ∃ d, d = s.ended := ⟨_, rfl⟩
  have he0 := HO.out.ended0
  have he1 : s.ended ≤ 1000000 := Int.le_trans HO.out.ended1 HE.out
  rw [← hd17] at hend he0 he1
  have HD := hid hd17; clear hd17
  generalize hq : s.going = q at hgo
  have HQ := hid hq; clear hq
  cases q
  · go_wp2_with fail
    go_ret
    rw [quiet_idle hk (by have := HP.out; omega) HQ.out]
    have := HG1.out
    rw [set_idle (HO.out.idle HQ.out) hkn] at this
    exact ⟨rfl, this, HF1.out⟩
  · have q1 := guard8
    cases hb : (b0 || b1 || b2 || b3 || b4 || b5 || b6 || b7)
    · have q2 : ∀ w, (binOp .neq 61 (.agg #[.bool b0, .bool b1, .bool b2, .bool b3, .bool b4, .bool b5, .bool b6, .bool b7]) (.agg #[.bool false, .bool false, .bool false, .bool false, .bool false, .bool false, .bool false, .bool false])).run Try.prog w = .ok (.bool false) w := fun w => by rw [neq8, hb]
      have HN := hid (HA.out.trans hb); clear hb
      go_wp2_with fail
      have hu : ({ s with needs := s.needs.set k false, going := false, ended := d17 + 1 } : Gr.St) = { s with needs := s.needs.set k false, going := false, ended := s.ended + 1 } := by rw [HD.out]
      have HG2 : Hid (GRep _ g { s with needs := s.needs.set k false, going := false, ended := s.ended + 1 }) := hid (hu ▸ (HG1.out.setGoing false).setEnded (d17 + 1))
      have HF2 : Hid (Fr [g] w _) := hid ((HF1.out.setCell (p := ⟨g, 18, none⟩) (by simp) (.bool false)).setCell (p := ⟨g, 17, none⟩) (by simp) (.int .i64 (d17 + 1)))
      clear hu
      generalize (w1.setCell ⟨g, 18, none⟩ (.bool false)).setCell ⟨g, 17, none⟩ (.int .i64 (d17 + 1)) = w2 at HG2 HF2 ⊢
      clear hf17 hf18 hend n0 n1 n2 n3 n4 n5 n6 n7 hgo q1 q2 HG1 HF1
      have HQE := hid (quiet_end hk (by have := HP.out; omega) HQ.out (by rw [HN.out]; decide))
      obtain ⟨u, hu⟩ : ∃ u : Gr.St, u = { s with needs := s.needs.set k false, going := false, ended := s.ended + 1 } := ⟨_, rfl⟩
      rw [← hu] at HQE HG2
      have hu1 : 1 ≤ u.deep.length := by rw [hu]; exact HO.out.pos
      have hu8 : u.deep.length ≤ 8 := by rw [hu]; exact HO.out.le8
      have hur : u.rows.length = u.deep.length := by rw [hu]; exact HO.out.rlen
      have hun : u.needs.length = u.deep.length := by rw [hu]; simpa using HO.out.nlen
      have HU := hid (And.intro hu1 (And.intro hu8 (And.intro hur hun)))
      clear hu hu1 hu8 hur hun
      cases hl : u.later
      · have HL := hid hl; clear hl
        refine (waits_at false g u w2 HG2.out HU.out.1 HU.out.2.1 HU.out.2.2.1 HL.out).mono ?_
        rintro e w3 ⟨rfl, m, rfl⟩
        go_wp2_with fail
        go_ret
        rw [HQE.out, HL.out]
        exact ⟨rfl, HG2.out, HF2.out.drewN m⟩
      · have HL := hid hl; clear hl
        refine (waits_at true g u w2 HG2.out HU.out.1 HU.out.2.1 HU.out.2.2.1 HL.out).mono ?_
        rintro e w3 ⟨rfl, m, rfl⟩
        go_wp2_with fail
        refine (begin_any g u (w2.drewN m) HG2.out HU.out.1 HU.out.2.1 HU.out.2.2.2).mono ?_
        rintro e w3 ⟨rfl, HG3, HF3⟩
        have HG3 := hid HG3; have HF3 := hid HF3
        go_wp2_with fail
        go_ret
        rw [HQE.out, HL.out]
        exact ⟨rfl, HG3.out, (HF2.out.drewN m).trans HF3.out⟩
    · have q2 : ∀ w, (binOp .neq 61 (.agg #[.bool b0, .bool b1, .bool b2, .bool b3, .bool b4, .bool b5, .bool b6, .bool b7]) (.agg #[.bool false, .bool false, .bool false, .bool false, .bool false, .bool false, .bool false, .bool false])).run Try.prog w = .ok (.bool true) w := fun w => by rw [neq8, hb]
      have HN := hid (HA.out.trans hb); clear hb
      go_wp2_with fail
      go_ret
      rw [quiet_more hk (by have := HP.out; omega) HQ.out HN.out]
      exact ⟨rfl, HG1.out, HF1.out⟩

theorem quiet_any (g : Nat) (s : Gr.St) (E c : Int) (w : World) (h : GRep w g s) (ho : Gr.Ok s E) (hE : E ≤ 1000000) : Calls Try.prog 33 #[.pointer (some ⟨g, 0, none⟩), .int .i64 c] w (Goes w g (s.quiet c)) := by
  rcases nat_or c s.deep.length with ⟨k, rfl, hk⟩ | hout
  · by_cases hp : 0 < s.deep.getD k 0
    · exact quiet_in g s E k w h ho hk hp
    · exact quiet_on g s E k w h ho hE hk hp
  · exact quiet_early g s E c w h ho hout
end Go.Proofs.Ytkkbgohijokbhaa
