/- grace.Grace: Call. -/
import Derived.Test.YtkkbgohijokbhaaZ
namespace Go.Proofs.Ytkkbgohijokbhaa
open Go.RowKit

theorem call_out {s : Gr.St} {c id : Int} (h : ¬ (0 ≤ c ∧ c < s.deep.length)) : s.call c id = (s, 9) := by
  unfold Gr.St.call; rw [if_neg (by rw [Gr.has_not h]; decide)]
theorem call_bad {s : Gr.St} {k : Nat} {id : Int} (hk : k < s.deep.length) (h : id < 0 ∨ 9007199254740991 < id) : s.call (k : Int) id = (s, 2) := by
  unfold Gr.St.call; rw [if_pos (Gr.has_nat hk), if_pos h]
theorem call_full {s : Gr.St} {k : Nat} {id : Int} (hk : k < s.deep.length) (h : ¬ (id < 0 ∨ 9007199254740991 < id)) (hf : (s.rows.getD k []).length = 256) : s.call (k : Int) id = (s, 5) := by
  unfold Gr.St.call; rw [if_pos (Gr.has_nat hk), if_neg h]
  exact if_pos hf
theorem call_add {s : Gr.St} {k : Nat} {id : Int} (hk : k < s.deep.length) (h : ¬ (id < 0 ∨ 9007199254740991 < id)) (hf : ¬ (s.rows.getD k []).length = 256) {t : Gr.St} {a : Int} {r : List Gr.Rec} {E : Int}
    (ht : (if s.going then s else s.begin) = t) (ha : s.callAt = a) (hr : Gr.add (s.rows.getD k []) (id, a) = (r, E)) : s.call (k : Int) id = if E = 0 then ({ t with rows := t.rows.set k r }, 0) else (t, E) := by
  unfold Gr.St.call
  rw [if_pos (Gr.has_nat hk), if_neg h]
  refine (if_neg hf).trans ?_
  rw [ht, ha]
  show (if (Gr.add (s.rows.getD k []) (id, a)).2 = 0 then ({ t with rows := t.rows.set k (Gr.add (s.rows.getD k []) (id, a)).1 }, 0) else (t, (Gr.add (s.rows.getD k []) (id, a)).2)) = _
  rw [hr]

/-- the end of Call: behind 'Add' -/
theorem call_store {w w1 w2 : World} {g k : Nat} {t : Gr.St} {r : List Gr.Rec} {A : Option Addr} {N c : Nat} (h1 : GRep w1 g t) (hf1 : Fr [g] w w1) (hb : Below w1.heap.size w1 w2) (hN : N ≤ c) (hc : c ≤ maxLen) (ho : OwnR w2 w1.heap.size A N r) (hk : k < t.rows.length) (hk8 : k < 8) :
    GRep (w2.setCell ⟨g, 9 + k, none⟩ (.iface 22 (.slice A N c))) g { t with rows := t.rows.set k r } ∧ Fr [g] w (w2.setCell ⟨g, 9 + k, none⟩ (.iface 22 (.slice A N c))) :=
  ⟨(h1.below hb).setRow k hk hk8 _ _ (.inr ⟨A, N, c, rfl, hN, hc, ho.mono (Nat.zero_le _)⟩), (hf1.trans (Fr.of_below hb [g])).setCell (by simp) _⟩

set_option maxHeartbeats 1600000 in
theorem call_early (g : Nat) (s : Gr.St) (E : Int) (k : Nat) (id : Int) (w : World) (h : GRep w g s) (ho : Gr.Ok s E) (hE : E ≤ 1000000) (hk : k < s.deep.length) (hb : id < 0 ∨ 9007199254740991 < id) : Calls Try.prog 34 #[.pointer (some ⟨g, 0, none⟩), .int .i64 (k : Int), .int .i64 id] w (Goes w g (s.call (k : Int) id)) := by
  have H := hid h
  have hcpu := h.cpus
  have hk8 : k < 8 := Nat.lt_of_lt_of_le hk ho.le8
  have hkr : k < s.rows.length := by rw [ho.rlen]; exact hk
  obtain ⟨v, A, N, cp, hv, hNc, hcm, hrow, hcall⟩ := row_lit g s k w h hk8
  have hend := h.endedAt
  have hgo := h.goingAt
  have hf := h.frozen (9 + k)
  have he0 := ho.ended0
  have he1 : s.ended ≤ 1000000 := Int.le_trans ho.ended1 hE
  have HO := hid ho
  obtain ⟨d, hd⟩ : ∃ d, d = s.ended := ⟨_, rfl⟩
  obtain ⟨q, hq⟩ : ∃ q, q = s.going := ⟨_, rfl⟩
  rw [← hd] at hend he0 he1
  rw [← hq] at hgo
  have HD := hid hd; have HQ := hid hq
  have HC := hid hcall; have HR := hid hrow
  have hm : N ≤ maxLen := Nat.le_trans hNc hcm
  have HM := hid hm
  clear hd h ho hcall hrow hq hm hE hcm hNc
  have HP := hid (call_bad (id := id) hk hb)
  rcases hb with hb1 | hb2
  · go_enter Try.func34, Try.ntmps34
    go_wp2_with fail
    refine (asked_ok g _ k _ hcpu hk).mono ?_
    rintro e w1 ⟨rfl, rfl⟩
    go_wp2_with fail
    refine (HC.out _ hv).mono ?_
    rintro e w1 ⟨rfl, rfl⟩
    go_wp2_with fail
    go_ret
    rw [HP.out]
    exact ⟨rfl, H.out, Fr.refl _ _⟩
  · have hb1 : ¬ id < 0 := by omega
    go_enter Try.func34, Try.ntmps34
    go_wp2_with fail
    refine (asked_ok g _ k _ hcpu hk).mono ?_
    rintro e w1 ⟨rfl, rfl⟩
    go_wp2_with fail
    refine (HC.out _ hv).mono ?_
    rintro e w1 ⟨rfl, rfl⟩
    go_wp2_with fail
    go_ret
    rw [HP.out]
    exact ⟨rfl, H.out, Fr.refl _ _⟩

set_option maxHeartbeats 1600000 in
theorem call_fulls (g : Nat) (s : Gr.St) (E : Int) (k : Nat) (id : Int) (w : World) (h : GRep w g s) (ho : Gr.Ok s E) (hE : E ≤ 1000000) (hk : k < s.deep.length) (hb : ¬ (id < 0 ∨ 9007199254740991 < id)) (hfull : (s.rows.getD k []).length = 256) : Calls Try.prog 34 #[.pointer (some ⟨g, 0, none⟩), .int .i64 (k : Int), .int .i64 id] w (Goes w g (s.call (k : Int) id)) := by
  have H := hid h
  have hcpu := h.cpus
  have hk8 : k < 8 := Nat.lt_of_lt_of_le hk ho.le8
  have hkr : k < s.rows.length := by rw [ho.rlen]; exact hk
  obtain ⟨v, A, N, cp, hv, hNc, hcm, hrow, hcall⟩ := row_lit g s k w h hk8
  have hend := h.endedAt
  have hgo := h.goingAt
  have hf := h.frozen (9 + k)
  have he0 := ho.ended0
  have he1 : s.ended ≤ 1000000 := Int.le_trans ho.ended1 hE
  have HO := hid ho
  obtain ⟨d, hd⟩ : ∃ d, d = s.ended := ⟨_, rfl⟩
  obtain ⟨q, hq⟩ : ∃ q, q = s.going := ⟨_, rfl⟩
  rw [← hd] at hend he0 he1
  rw [← hq] at hgo
  have HD := hid hd; have HQ := hid hq
  have HC := hid hcall; have HR := hid hrow
  have hm : N ≤ maxLen := Nat.le_trans hNc hcm
  have HM := hid hm
  clear hd h ho hcall hrow hq hm hE hcm hNc
  have HP := hid (call_full (id := id) hk hb hfull)
  have hN := HR.out.1.trans hfull
  subst hN
  have hb1 : ¬ id < 0 := fun h => hb (.inl h)
  have hb2 : ¬ 9007199254740991 < id := fun h => hb (.inr h)
  clear hb hfull
  go_enter Try.func34, Try.ntmps34
  go_wp2_with fail
  refine (asked_ok g _ k _ hcpu hk).mono ?_
  rintro e w1 ⟨rfl, rfl⟩
  go_wp2_with fail
  refine (HC.out _ hv).mono ?_
  rintro e w1 ⟨rfl, rfl⟩
  go_wp2_with fail
  go_ret
  rw [HP.out]
  exact ⟨rfl, H.out, Fr.refl _ _⟩

set_option maxHeartbeats 1600000 in
theorem call_idle (g : Nat) (s : Gr.St) (E : Int) (k : Nat) (id : Int) (w : World) (h : GRep w g s) (ho : Gr.Ok s E) (hE : E ≤ 1000000) (hk : k < s.deep.length) (hb : ¬ (id < 0 ∨ 9007199254740991 < id)) (hfull : ¬ (s.rows.getD k []).length = 256) (hqv : s.going = false) : Calls Try.prog 34 #[.pointer (some ⟨g, 0, none⟩), .int .i64 (k : Int), .int .i64 id] w (Goes w g (s.call (k : Int) id)) := by
  have H := hid h
  have hcpu := h.cpus
  have hk8 : k < 8 := Nat.lt_of_lt_of_le hk ho.le8
  have hkr : k < s.rows.length := by rw [ho.rlen]; exact hk
  obtain ⟨v, A, N, cp, hv, hNc, hcm, hrow, hcall⟩ := row_lit g s k w h hk8
  have hend := h.endedAt
  have hgo := h.goingAt
  have hf := h.frozen (9 + k)
  have he0 := ho.ended0
  have he1 : s.ended ≤ 1000000 := Int.le_trans ho.ended1 hE
  have HO := hid ho
  obtain ⟨d, hd⟩ : ∃ d, d = s.ended := ⟨_, rfl⟩
  obtain ⟨q, hq⟩ : ∃ q, q = s.going := ⟨_, rfl⟩
  rw [← hd] at hend he0 he1
  rw [← hq] at hgo
  have HD := hid hd; have HQ := hid hq
  have HC := hid hcall; have HR := hid hrow
  have hm : N ≤ maxLen := Nat.le_trans hNc hcm
  have HM := hid hm
  clear hd h ho hcall hrow hq hm hE hcm hNc
  have HB := hid hb; have HFull := hid hfull
  have hb1 : ¬ id < 0 := fun h => hb (.inl h)
  have hb2 : ¬ 9007199254740991 < id := fun h => hb (.inr h)
  have hfull' : ((N : Int) == 256) = false := by rw [beq_eq_false_iff_ne]; have := HR.out.1; omega
  have hqq := HQ.out.trans hqv
  subst hqq
  clear hb hfull hqv
  obtain ⟨⟨r, Er⟩, hA⟩ : ∃ r, Gr.add (s.rows.getD k []) (id, d + 1) = r := ⟨_, rfl⟩
  have HP := hid (call_add (t := s.begin) (a := d + 1) (r := r) (E := Er) hk HB.out HFull.out (by rw [← HQ.out]; rfl) (by unfold Gr.St.callAt; rw [← HQ.out, ← HD.out]; simp <;> omega) hA)
  have HA := hid hA; clear hA
  go_enter Try.func34, Try.ntmps34
  go_wp2_with fail
  refine (asked_ok g _ k _ hcpu hk).mono ?_
  rintro e w1 ⟨rfl, rfl⟩
  go_wp2_with fail
  refine (HC.out _ hv).mono ?_
  rintro e w1 ⟨rfl, rfl⟩
  go_wp2_with fail
  refine (begin_any g s _ H.out HO.out.pos HO.out.le8 HO.out.nlen).mono ?_
  rintro e w1 ⟨rfl, HG1, HF1⟩
  have HG1 := hid HG1; have HF1 := hid HF1
  have hS : ∀ b ∈ [g], ∃ t' cs', Blk w b t' cs' ∧ t' ≠ 24 := fun b hb => by
    simp at hb; subst hb
    obtain ⟨cs, hcs⟩ := H.out.blk
    exact ⟨63, cs, hcs, by decide⟩
  have HS := hid hS; clear hS
  go_wp2_with fail
  refine (add_at r Er A N cp (s.rows.getD k []) id (d + 1) _ (HR.out.fr HF1.out HS.out).rd HM.out HA.out).mono ?_
  rintro e w2 ⟨v2, rfl, ⟨A2, N2, c2, rfl, hc2, hm2, hr2⟩, hb2⟩
  have HG2 := hid (HG1.out.below hb2); have HB2 := hid hb2; have HC2 := hid hc2; have HM2 := hid hm2; have HR2 := hid hr2
  obtain ⟨v0, hv0, -⟩ := HG2.out.rowAt k hk8
  have hf2 := HG2.out.frozen (9 + k)
  clear hb2 hc2 hm2 hr2
  by_cases hz : Er = 0
  · subst hz
    have HP0 := hid (HP.out.trans (if_pos rfl)); clear HP
    go_wp2_with fail
    go_ret
    rw [HP0.out]
    exact ⟨rfl, call_store HG1.out HF1.out HB2.out HC2.out HM2.out HR2.out hkr hk8⟩
  · have hz' : (Er == 0) = false := by rw [beq_eq_false_iff_ne]; exact hz
    have HZ := hid hz; clear hz
    go_wp2_with fail
    go_ret
    rw [HP.out, if_neg HZ.out]
    exact ⟨rfl, HG2.out, HF1.out.trans (Fr.of_below HB2.out [g])⟩

set_option maxHeartbeats 1600000 in
theorem call_going (g : Nat) (s : Gr.St) (E : Int) (k : Nat) (id : Int) (w : World) (h : GRep w g s) (ho : Gr.Ok s E) (hE : E ≤ 1000000) (hk : k < s.deep.length) (hb : ¬ (id < 0 ∨ 9007199254740991 < id)) (hfull : ¬ (s.rows.getD k []).length = 256) (hqv : s.going = true) : Calls Try.prog 34 #[.pointer (some ⟨g, 0, none⟩), .int .i64 (k : Int), .int .i64 id] w (Goes w g (s.call (k : Int) id)) := by
  have H := hid h
  have hcpu := h.cpus
  have hk8 : k < 8 := Nat.lt_of_lt_of_le hk ho.le8
  have hkr : k < s.rows.length := by rw [ho.rlen]; exact hk
  obtain ⟨v, A, N, cp, hv, hNc, hcm, hrow, hcall⟩ := row_lit g s k w h hk8
  have hend := h.endedAt
  have hgo := h.goingAt
  have hf := h.frozen (9 + k)
  have he0 := ho.ended0
  have he1 : s.ended ≤ 1000000 := Int.le_trans ho.ended1 hE
  have HO := hid ho
  obtain ⟨d, hd⟩ : ∃ d, d = s.ended := ⟨_, rfl⟩
  obtain ⟨q, hq⟩ : ∃ q, q = s.going := ⟨_, rfl⟩
  rw [← hd] at hend he0 he1
  rw [← hq] at hgo
  have HD := hid hd; have HQ := hid hq
  have HC := hid hcall; have HR := hid hrow
  have hm : N ≤ maxLen := Nat.le_trans hNc hcm
  have HM := hid hm
  clear hd h ho hcall hrow hq hm hE hcm hNc
  have HB := hid hb; have HFull := hid hfull
  have hb1 : ¬ id < 0 := fun h => hb (.inl h)
  have hb2 : ¬ 9007199254740991 < id := fun h => hb (.inr h)
  have hfull' : ((N : Int) == 256) = false := by rw [beq_eq_false_iff_ne]; have := HR.out.1; omega
  have hqq := HQ.out.trans hqv
  subst hqq
  clear hb hfull hqv
  obtain ⟨⟨r, Er⟩, hA⟩ : ∃ r, Gr.add (s.rows.getD k []) (id, d + 1 + 1) = r := ⟨_, rfl⟩
  have HP := hid (call_add (t := s) (a := d + 1 + 1) (r := r) (E := Er) hk HB.out HFull.out (by rw [← HQ.out]; rfl) (by unfold Gr.St.callAt; rw [← HQ.out, ← HD.out]; simp <;> omega) hA)
  have HA := hid hA; clear hA
  go_enter Try.func34, Try.ntmps34
  go_wp2_with fail
  refine (asked_ok g _ k _ hcpu hk).mono ?_
  rintro e w1 ⟨rfl, rfl⟩
  go_wp2_with fail
  refine (HC.out _ hv).mono ?_
  rintro e w1 ⟨rfl, rfl⟩
  go_wp2_with fail
  refine (add_at r Er A N cp (s.rows.getD k []) id (d + 1 + 1) _ HR.out.rd HM.out HA.out).mono ?_
  rintro e w2 ⟨v2, rfl, ⟨A2, N2, c2, rfl, hc2, hm2, hr2⟩, hb2⟩
  have HG2 := hid (H.out.below hb2); have HB2 := hid hb2; have HC2 := hid hc2; have HM2 := hid hm2; have HR2 := hid hr2
  obtain ⟨v0, hv0, -⟩ := HG2.out.rowAt k hk8
  have hf2 := HG2.out.frozen (9 + k)
  clear hb2 hc2 hm2 hr2
  by_cases hz : Er = 0
  · subst hz
    have HP0 := hid (HP.out.trans (if_pos rfl)); clear HP
    go_wp2_with fail
    go_ret
    rw [HP0.out]
    exact ⟨rfl, call_store H.out (Fr.refl _ _) HB2.out HC2.out HM2.out HR2.out hkr hk8⟩
  · have hz' : (Er == 0) = false := by rw [beq_eq_false_iff_ne]; exact hz
    have HZ := hid hz; clear hz
    go_wp2_with fail
    go_ret
    rw [HP.out, if_neg HZ.out]
    exact ⟨rfl, HG2.out, Fr.of_below HB2.out [g]⟩

set_option maxHeartbeats 1600000 in
theorem call_any (g : Nat) (s : Gr.St) (E c id : Int) (w : World) (h : GRep w g s) (ho : Gr.Ok s E) (hE : E ≤ 1000000) : Calls Try.prog 34 #[.pointer (some ⟨g, 0, none⟩), .int .i64 c, .int .i64 id] w (Goes w g (s.call c id)) := by
  have H := hid h
  have hcpu := h.cpus
  rcases nat_or c s.deep.length with ⟨k, rfl, hk⟩ | hout
  · by_cases hb : id < 0 ∨ 9007199254740991 < id
    · exact call_early g s E k id w h ho hE hk hb
    by_cases hfull : (s.rows.getD k []).length = 256
    · exact call_fulls g s E k id w h ho hE hk hb hfull
    cases hq : s.going
    · exact call_idle g s E k id w h ho hE hk hb hfull hq
    · exact call_going g s E k id w h ho hE hk hb hfull hq
  · have HO := hid hout
    have hp := ho.pos
    clear hout h ho
    go_enter Try.func34, Try.ntmps34
    go_wp2_with fail
    refine (asked_out g _ c _ hcpu hp HO.out).mono ?_
    rintro e w1 ⟨rfl, rfl⟩
    go_wp2_with fail
    go_ret
    rw [call_out HO.out]
    exact ⟨rfl, H.out, Fr.refl _ _⟩
end Go.Proofs.Ytkkbgohijokbhaa
