/- the reference's machine: Call, New. -/
import Derived.Test.YtkkbgohijokbhaaRd
namespace Go.Proofs.Ytkkbgohijokbhaa
open Go.RowKit

/-- the end of Call: behind 'Add' -/
theorem rcall_store {w w1 w2 : World} {m d r q k : Nat} {t : Gr.St} {l : List Gr.Rec} {A : Option Addr} {N c : Nat} (h1 : RRep w1 m d r q t) (hf1 : Fr [m, d, r, q] w w1) (hb : Below w1.heap.size w1 w2) (hN : N ≤ c) (hc : c ≤ maxLen) (ho : OwnR w2 w1.heap.size A N l) (hk : k < t.rows.length) (hk2 : k < t.deep.length) :
    RRep (w2.setCell ⟨r, k, none⟩ (.slice A N c)) m d r q { t with rows := t.rows.set k l } ∧ Fr [m, d, r, q] w (w2.setCell ⟨r, k, none⟩ (.slice A N c)) :=
  ⟨(h1.below hb).setRow k hk hk2 _ _ ⟨A, N, c, rfl, hN, hc, ho.mono (Nat.zero_le _)⟩, (hf1.trans (Fr.of_below hb [m, d, r, q])).setCell (by simp) _⟩

set_option maxHeartbeats 1600000 in
theorem rcall_early (m d r q : Nat) (s : Gr.St) (k : Nat) (id : Int) (w : World) (h : RRep w m d r q s) (hk : k < s.deep.length) (hb : id < 0 ∨ 9007199254740991 < id) : Calls Try.prog 45 #[.pointer (some ⟨m, 0, none⟩), .int .i64 (k : Int), .int .i64 id] w (RGoes w m d r q (s.call (k : Int) id)) := by
  have H := hid h
  have hm := h.m0
  have HP := hid (call_bad (id := id) hk hb)
  obtain ⟨n, hnn⟩ : ∃ n, n = s.deep.length := ⟨_, rfl⟩
  rw [← hnn] at hm hk
  clear h hnn
  rcases hb with hb1 | hb2
  · go_enter Try.func45, Try.ntmps45
    go_wp2_with fail
    refine (has_yes m d n k _ hm hk).mono ?_
    rintro e w1 ⟨rfl, rfl⟩
    go_wp2_with fail
    go_ret
    rw [HP.out]
    exact ⟨rfl, H.out, Fr.refl _ _⟩
  · have hb1 : ¬ id < 0 := by omega
    go_enter Try.func45, Try.ntmps45
    go_wp2_with fail
    refine (has_yes m d n k _ hm hk).mono ?_
    rintro e w1 ⟨rfl, rfl⟩
    go_wp2_with fail
    go_ret
    rw [HP.out]
    exact ⟨rfl, H.out, Fr.refl _ _⟩

set_option maxHeartbeats 1600000 in
theorem rcall_fulls (m d r q : Nat) (s : Gr.St) (k : Nat) (id : Int) (w : World) (h : RRep w m d r q s) (hk : k < s.deep.length) (hb : ¬ (id < 0 ∨ 9007199254740991 < id)) (hfull : (s.rows.getD k []).length = 256) : Calls Try.prog 45 #[.pointer (some ⟨m, 0, none⟩), .int .i64 (k : Int), .int .i64 id] w (RGoes w m d r q (s.call (k : Int) id)) := by
  have H := hid h
  have hm := h.m0
  have hm1 := h.m1
  obtain ⟨A, N, cp, hv, hNc, hcm, hrow⟩ := h.rowAt hk
  have HP := hid (call_full (id := id) hk hb hfull)
  have hN := hrow.1.trans hfull
  subst hN
  have hb1 : ¬ id < 0 := fun h => hb (.inl h)
  have hb2 : ¬ 9007199254740991 < id := fun h => hb (.inr h)
  obtain ⟨n, hnn⟩ : ∃ n, n = s.deep.length := ⟨_, rfl⟩
  rw [← hnn] at hm hk hm1
  clear h hnn hb hfull hrow hNc hcm
  go_enter Try.func45, Try.ntmps45
  go_wp2_with fail
  refine (has_yes m d n k _ hm hk).mono ?_
  rintro e w1 ⟨rfl, rfl⟩
  go_wp2_with fail
  go_ret
  rw [HP.out]
  exact ⟨rfl, H.out, Fr.refl _ _⟩

set_option maxHeartbeats 1600000 in
theorem rcall_idle (m d r q : Nat) (s : Gr.St) (E : Int) (k : Nat) (id : Int) (w : World) (h : RRep w m d r q s) (ho : Gr.Ok s E) (hE : E ≤ 1000000) (hk : k < s.deep.length) (hb : ¬ (id < 0 ∨ 9007199254740991 < id)) (hfull : ¬ (s.rows.getD k []).length = 256) (hqv : s.going = false) :
    Calls Try.prog 45 #[.pointer (some ⟨m, 0, none⟩), .int .i64 (k : Int), .int .i64 id] w (RGoes w m d r q (s.call (k : Int) id)) := by
  have H := hid h; have HO := hid ho
  have hm := h.m0
  have hm1 := h.m1
  have hm2 := h.m2
  have hm3 := h.m3
  obtain ⟨A, N, cp, hv, hNc, hcm, hrow⟩ := h.rowAt hk
  obtain ⟨x, hx⟩ : ∃ d, d = s.ended := ⟨_, rfl⟩
  have he0 := ho.ended0
  have he1 : s.ended ≤ 1000000 := Int.le_trans ho.ended1 hE
  rw [← hx] at hm2 he0 he1
  rw [hqv] at hm3
  obtain ⟨⟨l, Er⟩, hA⟩ : ∃ r, Gr.add (s.rows.getD k []) (id, x + 1) = r := ⟨_, rfl⟩
  have HP := hid (call_add (t := s.begin) (a := x + 1) (r := l) (E := Er) hk hb hfull (by rw [hqv]; rfl) (by unfold Gr.St.callAt; rw [hqv, ← hx]; rfl) hA)
  have HA := hid hA; have HX := hid hx
  have hb1 : ¬ id < 0 := fun h => hb (.inl h)
  have hb2 : ¬ 9007199254740991 < id := fun h => hb (.inr h)
  have hfull' : ((N : Int) == 256) = false := by rw [beq_eq_false_iff_ne]; have := hrow.1; omega
  have HK := hid hk
  have HKR := hid (show k < s.rows.length by rw [ho.rlen]; exact hk)
  obtain ⟨n, hnn⟩ : ∃ n, n = s.deep.length := ⟨_, rfl⟩
  rw [← hnn] at hm hk hm1
  have HN := hid hnn
  clear h ho hnn hb hfull hrow hNc hcm hx hA hE hqv
  go_enter Try.func45, Try.ntmps45
  go_wp2_with fail
  refine (has_yes m d n k _ hm hk).mono ?_
  rintro e w1 ⟨rfl, rfl⟩
  go_wp2_with fail
  refine (rbegin_any m d r q s _ H.out HO.out.le8 HO.out.nlen).mono ?_
  rintro e w1 ⟨rfl, HG1, HF1⟩
  have HG1 := hid HG1; have HF1 := hid HF1
  have g1 : w1.cell? ⟨m, 1, none⟩ = some (.slice (some ⟨r, 0, none⟩) n n) := by rw [HN.out]; exact HG1.out.m1
  have g2 : w1.cell? ⟨m, 2, none⟩ = some (.int .i64 x) := by rw [HX.out]; exact HG1.out.m2
  obtain ⟨A1, N1, c1, hv1, hNc1, hcm1, hrow1⟩ := HG1.out.rowAt (k := k) HK.out
  have HR1 : Hid (OwnR w1 0 A1 N1 (s.rows.getD k [])) := hid hrow1
  have HC := hid (Nat.le_trans hNc1 hcm1)
  clear hrow1 hNc1 hcm1 hm1 hm2 hm3 hv hm
  go_wp2_with fail
  refine (radd_at l Er A1 N1 c1 (s.rows.getD k []) id (x + 1) _ HR1.out.rd HC.out HA.out).mono ?_
  rintro e w2 ⟨v2, rfl, ⟨A2, N2, c2, rfl, hc2, hm2, hr2⟩, hb2⟩
  have HG2 := hid (HG1.out.below hb2); have HB2 := hid hb2; have HC2 := hid hc2; have HM2 := hid hm2; have HR2 := hid hr2
  have j1 : w2.cell? ⟨m, 1, none⟩ = some (.slice (some ⟨r, 0, none⟩) n n) := by rw [HN.out]; exact HG2.out.m1
  obtain ⟨A3, N3, c3, hv3, -, -, -⟩ := HG2.out.rowAt (k := k) HK.out
  have hf2 := HG2.out.fr_ k
  clear hb2 hc2 hm2 hr2 g1 g2 hv1
  by_cases hz : Er = 0
  · subst hz
    have HP0 := hid (HP.out.trans (if_pos rfl)); clear HP
    go_wp2_with fail
    go_ret
    rw [HP0.out]
    exact ⟨rfl, rcall_store HG1.out HF1.out HB2.out HC2.out HM2.out HR2.out HKR.out HK.out⟩
  · have hz' : (Er == 0) = false := by rw [beq_eq_false_iff_ne]; exact hz
    have HZ := hid hz; clear hz
    go_wp2_with fail
    go_ret
    rw [HP.out, if_neg HZ.out]
    exact ⟨rfl, HG2.out, HF1.out.trans (Fr.of_below HB2.out _)⟩

set_option maxHeartbeats 1600000 in
theorem rcall_going (m d r q : Nat) (s : Gr.St) (E : Int) (k : Nat) (id : Int) (w : World) (h : RRep w m d r q s) (ho : Gr.Ok s E) (hE : E ≤ 1000000) (hk : k < s.deep.length) (hb : ¬ (id < 0 ∨ 9007199254740991 < id)) (hfull : ¬ (s.rows.getD k []).length = 256) (hqv : s.going = true) :
    Calls Try.prog 45 #[.pointer (some ⟨m, 0, none⟩), .int .i64 (k : Int), .int .i64 id] w (RGoes w m d r q (s.call (k : Int) id)) := by
  have H := hid h; have HO := hid ho
  have hm := h.m0
  have hm1 := h.m1
  have hm2 := h.m2
  have hm3 := h.m3
  obtain ⟨A, N, cp, hv, hNc, hcm, hrow⟩ := h.rowAt hk
  obtain ⟨x, hx⟩ : ∃ d, d = s.ended := ⟨_, rfl⟩
  have he0 := ho.ended0
  have he1 : s.ended ≤ 1000000 := Int.le_trans ho.ended1 hE
  rw [← hx] at hm2 he0 he1
  rw [hqv] at hm3
  obtain ⟨⟨l, Er⟩, hA⟩ : ∃ r, Gr.add (s.rows.getD k []) (id, x + 2) = r := ⟨_, rfl⟩
  have HP := hid (call_add (t := s) (a := x + 2) (r := l) (E := Er) hk hb hfull (by rw [hqv]; rfl) (by unfold Gr.St.callAt; rw [hqv, ← hx]; rfl) hA)
  have HA := hid hA; have HX := hid hx; have HR := hid hrow
  have HC := hid (Nat.le_trans hNc hcm)
  have hb1 : ¬ id < 0 := fun h => hb (.inl h)
  have hb2 : ¬ 9007199254740991 < id := fun h => hb (.inr h)
  have hfull' : ((N : Int) == 256) = false := by rw [beq_eq_false_iff_ne]; have := hrow.1; omega
  have HK := hid hk
  have HKR := hid (show k < s.rows.length by rw [ho.rlen]; exact hk)
  obtain ⟨n, hnn⟩ : ∃ n, n = s.deep.length := ⟨_, rfl⟩
  rw [← hnn] at hm hk hm1
  have HN := hid hnn
  clear h ho hnn hb hfull hrow hNc hcm hx hA hE hqv
  go_enter Try.func45, Try.ntmps45
  go_wp2_with fail
  refine (has_yes m d n k _ hm hk).mono ?_
  rintro e w1 ⟨rfl, rfl⟩
  go_wp2_with fail
  refine (radd_at l Er A N cp (s.rows.getD k []) id (x + 2) _ HR.out.rd HC.out HA.out).mono ?_
  rintro e w2 ⟨v2, rfl, ⟨A2, N2, c2, rfl, hc2, hm2, hr2⟩, hb2⟩
  have HG2 := hid (H.out.below hb2); have HB2 := hid hb2; have HC2 := hid hc2; have HM2 := hid hm2; have HR2 := hid hr2
  have j1 : w2.cell? ⟨m, 1, none⟩ = some (.slice (some ⟨r, 0, none⟩) n n) := by rw [HN.out]; exact HG2.out.m1
  obtain ⟨A3, N3, c3, hv3, -, -, -⟩ := HG2.out.rowAt (k := k) HK.out
  have hf2 := HG2.out.fr_ k
  clear hb2 hc2 hm2 hr2 hm1 hm3 hv hm
  by_cases hz : Er = 0
  · subst hz
    have HP0 := hid (HP.out.trans (if_pos rfl)); clear HP
    go_wp2_with fail
    go_ret
    rw [HP0.out]
    exact ⟨rfl, rcall_store H.out (Fr.refl _ _) HB2.out HC2.out HM2.out HR2.out HKR.out HK.out⟩
  · have hz' : (Er == 0) = false := by rw [beq_eq_false_iff_ne]; exact hz
    have HZ := hid hz; clear hz
    go_wp2_with fail
    go_ret
    rw [HP.out, if_neg HZ.out]
    exact ⟨rfl, HG2.out, Fr.of_below HB2.out _⟩

theorem rcall_any (m d r q : Nat) (s : Gr.St) (E c id : Int) (w : World) (h : RRep w m d r q s) (ho : Gr.Ok s E) (hE : E ≤ 1000000) : Calls Try.prog 45 #[.pointer (some ⟨m, 0, none⟩), .int .i64 c, .int .i64 id] w (RGoes w m d r q (s.call c id)) := by
  have H := hid h
  rcases nat_or c s.deep.length with ⟨k, rfl, hk⟩ | hout
  · by_cases hb : id < 0 ∨ 9007199254740991 < id
    · exact rcall_early m d r q s k id w h hk hb
    by_cases hfull : (s.rows.getD k []).length = 256
    · exact rcall_fulls m d r q s k id w h hk hb hfull
    cases hq : s.going
    · exact rcall_idle m d r q s E k id w h ho hE hk hb hfull hq
    · exact rcall_going m d r q s E k id w h ho hE hk hb hfull hq
  · have hm := h.m0
    have HO := hid hout
    clear hout h ho
    go_enter Try.func45, Try.ntmps45
    go_wp2_with fail
    refine (has_no m d _ c _ hm HO.out).mono ?_
    rintro e w1 ⟨rfl, rfl⟩
    go_wp2_with fail
    go_ret
    rw [call_out HO.out]
    exact ⟨rfl, H.out, Fr.refl _ _⟩

end Go.Proofs.Ytkkbgohijokbhaa
