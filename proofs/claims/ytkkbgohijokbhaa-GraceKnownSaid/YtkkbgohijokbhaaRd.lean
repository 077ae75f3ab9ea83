/- the reference's machine: Poll, Quiet. -/
import Derived.Test.YtkkbgohijokbhaaRc
namespace Go.Proofs.Ytkkbgohijokbhaa
open Go.RowKit

theorem RRep.lts {w : World} {m d r q : Nat} {s : Gr.St} (h : RRep w m d r q s) : ∀ b ∈ [m, d, r, q], b < w.heap.size := fun b hb => by
  obtain ⟨t, cs, hc, _⟩ := h.types b hb
  exact hc.lt

/-- Ready in the middle of a region in which the reference's cells are held -/
theorem rready_held (m r q' k : Nat) (n : Nat) (A : Option Addr) (N c : Nat) (l : List Gr.Rec) (d : Int) (ids : List Int) (rest : List Gr.Rec) (E : Int) (w W : World)
    (hS : W.cell? ⟨m, 1, none⟩ = some (.slice (some ⟨r, q', none⟩) n n) ∧ W.cell? ⟨r, k, none⟩ = some (.slice A N c) ∧ W.cell? ⟨m, 2, none⟩ = some (.int .i64 d) ∧ Hid (RD W A N l) ∧ Hid (Below w.heap.size w W)) (hc : N ≤ c) (hm : N ≤ maxLen) (hE : readyAns l d = (ids, rest, E)) :
    Calls Try.prog 22 #[.slice A N c, .int .i64 d] W fun e w' => ∃ v2 A2 N2 c2, e = .returned (.tuple #[v2, .slice A2 N2 c2, .int .i64 E]) ∧
      (w'.cell? ⟨m, 1, none⟩ = some (.slice (some ⟨r, q', none⟩) n n) ∧ w'.cell? ⟨r, k, none⟩ = some (.slice A N c) ∧ w'.cell? ⟨m, 2, none⟩ = some (.int .i64 d) ∧ Hid (RD w' A N l) ∧ Hid (Below w.heap.size w w')) ∧ Hid (IsInts w' w.heap.size v2 ids) ∧ Hid (N2 ≤ c2 ∧ c2 ≤ maxLen) ∧ Hid (OwnR w' 0 A2 N2 rest) := by
  refine (rready_at ids rest E A N c l d W hS.2.2.2.1.out hc hm hE).mono ?_
  rintro e w2 ⟨v2, u2, rfl, hI, ⟨A2, N2, c2, rfl, hc2, hm2, hr2⟩, hb2⟩
  exact ⟨v2, A2, N2, c2, rfl, ⟨(hb2.cell (World.block_lt_of_cell? _ _ hS.1)).trans hS.1, (hb2.cell (World.block_lt_of_cell? _ _ hS.2.1)).trans hS.2.1, (hb2.cell (World.block_lt_of_cell? _ _ hS.2.2.1)).trans hS.2.2.1, hid (hS.2.2.2.1.out.below hb2), hid (below_trans' hS.2.2.2.2.out hb2)⟩,
    hid (ints_mono hS.2.2.2.2.out.size hI), hid ⟨hc2, hm2⟩, hid (hr2.mono (Nat.zero_le _))⟩

/-- what the reference's Poll comes to -/
def RPolls (w : World) (m d r q : Nat) (x : Gr.St × List Int × Int) (e : Ending) (w' : World) : Prop :=
  ∃ v, e = .returned (.tuple #[v, .int .i64 x.2.2]) ∧ IsInts w' w.heap.size v x.2.1 ∧ RRep w' m d r q x.1 ∧ Fr [m, d, r, q] w w'

set_option maxHeartbeats 1600000 in
theorem rpoll_any (m d r q : Nat) (s : Gr.St) (E c : Int) (w : World) (h : RRep w m d r q s) (ho : Gr.Ok s E) : Calls Try.prog 46 #[.pointer (some ⟨m, 0, none⟩), .int .i64 c] w (RPolls w m d r q (s.poll c)) := by
  have H := hid h
  have hm0 := h.m0
  rcases nat_or c s.deep.length with ⟨k, rfl, hk⟩ | hout
  · have hk8 : s.deep.length ≤ 8 := ho.le8
    have HKR := hid (show k < s.rows.length by rw [ho.rlen]; exact hk)
    have HK := hid hk
    have hm1 := h.m1
    have hm2 := h.m2
    obtain ⟨A, N, cp, hv, hNc, hcm, hrow⟩ := h.rowAt hk
    have hf := h.fr_ k
    obtain ⟨x, hx⟩ : ∃ d, d = s.ended := ⟨_, rfl⟩
    rw [← hx] at hm2
    obtain ⟨⟨ids, rest, Er⟩, hA⟩ : ∃ r, readyAns (s.rows.getD k []) x = r := ⟨_, rfl⟩
    have HP := hid (poll_ok (ids := ids) (rest := rest) (E := Er) hk (by rw [← hx]; exact hA))
    have HA := hid hA; have HR := hid hrow.rd
    obtain ⟨n, hn⟩ : ∃ n, n = s.deep.length := ⟨_, rfl⟩
    rw [← hn] at hm0 hm1 hk hk8
    have HC := hid (And.intro hNc (Nat.le_trans hNc hcm))
    clear hx h ho hA hrow hn hNc hcm
    go_enter Try.func46, Try.ntmps46
    go_wp2_with fail
    refine (has_yes m d n k _ hm0 hk).mono ?_
    rintro e w1 ⟨rfl, rfl⟩
    go_wp2_with fail
    go_region_held3 (fun W => W.cell? ⟨m, 1, none⟩ = some (.slice (some ⟨r, 0, none⟩) n n) ∧ W.cell? ⟨r, k, none⟩ = some (.slice A N cp) ∧ W.cell? ⟨m, 2, none⟩ = some (.int .i64 x) ∧ Hid (RD W A N (s.rows.getD k [])) ∧ Hid (Below w.heap.size w W)) (first | exact ⟨hm1, hv, hm2, HR, (Below.refl _ _).drew⟩ | exact hS2)
      (first
        | (go_at_call 22; refine (rready_held m r 0 k n A N cp (s.rows.getD k []) x ids rest Er w _ ?_ HC.out.1 HC.out.2 HA.out).mono ?_; assumption; rintro e w2 ⟨v2, A2, N2, c2, rfl, hS2, HI, HM, HO2⟩))
    have HB2 := hid hS2.2.2.2.2
    have hm12 := hS2.1
    have hv2 := hS2.2.1
    clear hS2
    have HG2 := hid (H.out.below HB2.out)
    have hf2 := HG2.out.fr_ k
    by_cases hz : Er = 0
    · subst hz
      have HP0 := hid (HP.out.trans (if_pos rfl)); clear HP
      go_wp2_with fail
      go_ret2
      rw [HP0.out]
      exact ⟨v2, rfl, ints_fr HI.out ((Fr.refl [m, d, r, q] _).setCell (p := ⟨r, k, none⟩) (by simp) (.slice A2 N2 c2)) H.out.lts, HG2.out.setRow k HKR.out HK.out _ _ ⟨A2, N2, c2, rfl, HM.out.1, HM.out.2, HO2.out⟩, (Fr.of_below HB2.out [m, d, r, q]).setCell (p := ⟨r, k, none⟩) (by simp) (.slice A2 N2 c2)⟩
    · have hz' : (Er == 0) = false := by rw [beq_eq_false_iff_ne]; exact hz
      have HZ := hid hz; clear hz
      go_wp2_with fail
      go_ret2
      rw [HP.out, if_neg HZ.out]
      exact ⟨v2, rfl, HI.out, HG2.out, Fr.of_below HB2.out [m, d, r, q]⟩
  · have HO := hid hout
    clear hout h ho
    go_enter Try.func46, Try.ntmps46
    go_wp2_with fail
    refine (has_no m d _ c _ hm0 HO.out).mono ?_
    rintro e w1 ⟨rfl, rfl⟩
    go_wp2_with fail
    go_ret2
    rw [poll_out HO.out]
    exact ⟨_, rfl, IsInts.nil _ _, H.out, Fr.refl _ _⟩

theorem later_at (b : Bool) (m d r q : Nat) (s : Gr.St) (w : World) (h : RRep w m d r q s) (h8 : s.deep.length ≤ 8) (hl : s.rows.length = s.deep.length) (hb : s.later = b) :
    Calls Try.prog 63 #[.pointer (some ⟨m, 0, none⟩)] w fun e w' => e = .returned (.bool b) ∧ ∃ m, w' = w.drewN m := by subst hb; exact later_any m d r q s w h h8 hl
theorem waited_at (b : Bool) (m d r q : Nat) (s : Gr.St) (w : World) (h : RRep w m d r q s) (h8 : s.deep.length ≤ 8) (hl : s.needs.length = s.deep.length) (hb : s.needs.any id = b) :
    Calls Try.prog 62 #[.pointer (some ⟨m, 0, none⟩)] w fun e w' => e = .returned (.bool b) ∧ w' = w := by subst hb; exact waited_any m d r q s w h h8 hl

set_option maxHeartbeats 1600000 in
theorem rquiet_early (m d r q : Nat) (s : Gr.St) (c : Int) (w : World) (h : RRep w m d r q s) (hc : ¬ (0 ≤ c ∧ c < s.deep.length)) : Calls Try.prog 44 #[.pointer (some ⟨m, 0, none⟩), .int .i64 c] w (RGoes w m d r q (s.quiet c)) := by
  have H := hid h
  have hm := h.m0
  have HO := hid hc
  clear hc h
  go_enter Try.func44, Try.ntmps44
  go_wp2_with fail
  refine (has_no m d _ c _ hm HO.out).mono ?_
  rintro e w1 ⟨rfl, rfl⟩
  go_wp2_with fail
  go_ret
  rw [quiet_out HO.out]
  exact ⟨rfl, H.out, Fr.refl _ _⟩

set_option maxHeartbeats 1600000 in
theorem rquiet_in (m d r q : Nat) (s : Gr.St) (k : Nat) (w : World) (h : RRep w m d r q s) (hk : k < s.deep.length) (hp : 0 < s.deep.getD k 0) : Calls Try.prog 44 #[.pointer (some ⟨m, 0, none⟩), .int .i64 (k : Int)] w (RGoes w m d r q (s.quiet (k : Int))) := by
  have H := hid h
  have hm := h.m0
  have hd := h.deepAt hk
  have HP := hid (quiet_deep hk hp)
  obtain ⟨x, hx⟩ : ∃ d, d = s.deep.getD k 0 := ⟨_, rfl⟩
  rw [← hx] at hd hp
  obtain ⟨n, hn⟩ : ∃ n, n = s.deep.length := ⟨_, rfl⟩
  rw [← hn] at hm hk
  clear hx h hn
  go_enter Try.func44, Try.ntmps44
  go_wp2_with fail
  refine (has_yes m d n k _ hm hk).mono ?_
  rintro e w1 ⟨rfl, rfl⟩
  go_wp2_with fail
  go_ret
  rw [HP.out]
  exact ⟨rfl, H.out, Fr.refl _ _⟩

set_option maxHeartbeats 1600000 in
theorem rquiet_on (m d r q : Nat) (s : Gr.St) (E : Int) (k : Nat) (w : World) (h : RRep w m d r q s) (ho : Gr.Ok s E) (hE : E ≤ 1000000) (hk : k < s.deep.length) (hp : ¬ 0 < s.deep.getD k 0) : Calls Try.prog 44 #[.pointer (some ⟨m, 0, none⟩), .int .i64 (k : Int)] w (RGoes w m d r q (s.quiet (k : Int))) := by
  have H := hid h; have HO := hid ho
  have hm := h.m0
  have hm4 := h.m4
  have HK := hid hk
  have hd := h.deepAt hk
  have hf := h.fq k
  have hn := h.needAt (k := k) (by rw [ho.nlen]; exact hk)
  have hgo := h.m3
  have HP := hid hp
  obtain ⟨x, hx⟩ : ∃ d, d = s.deep.getD k 0 := ⟨_, rfl⟩
  rw [← hx] at hd hp
  have HE := hid hE
  obtain ⟨n, hnn⟩ : ∃ n, n = s.deep.length := ⟨_, rfl⟩
  rw [← hnn] at hm hk hm4
  generalize hq : s.going = g at hgo
  have HQ := hid hq; clear hq
  clear hx h ho hE hnn
  cases g
  · go_enter Try.func44, Try.ntmps44
    go_wp2_with fail
    refine (has_yes m d n k _ hm hk).mono ?_
    rintro e w1 ⟨rfl, rfl⟩
    go_wp2_with fail
    go_ret
    rw [quiet_idle HK.out (by have := HP.out; omega) HQ.out]
    exact ⟨rfl, H.out, Fr.refl _ _⟩
  · have HG1 := hid (H.out.setNeed k false)
    have HF1 := hid ((Fr.refl [m, d, r, q] w).setCell (p := ⟨q, k, none⟩) (by simp) (.bool false))
    go_enter Try.func44, Try.ntmps44
    go_wp2_with fail
    refine (has_yes m d n k _ hm hk).mono ?_
    rintro e w1 ⟨rfl, rfl⟩
    go_wp2_with fail
    generalize w.setCell ⟨q, k, none⟩ (.bool false) = w1 at HG1 HF1 ⊢
    clear hm hm4 hd hf hn hgo
    have hend := HG1.out.m2
    have hg1 := HG1.out.m3
    have hf2 := HG1.out.fm 2
    have hf3 := HG1.out.fm 3
    obtain ⟨d17, hd17⟩ : ∃ d, d = s.ended := ⟨_, rfl⟩
    have he0 := HO.out.ended0
    have he1 : s.ended ≤ 1000000 := Int.le_trans HO.out.ended1 HE.out
    simp only at hend hg1
    rw [← hd17] at hend he0 he1
    have HD := hid hd17; clear hd17
    have hl1 : (s.needs.set k false).length = s.deep.length := by simpa using HO.out.nlen
    have HL1 := hid hl1; clear hl1
    cases hb : (s.needs.set k false).any id
    · have HN := hid hb; clear hb
      refine (waited_at false m d r q _ w1 HG1.out HO.out.le8 HL1.out HN.out).mono ?_
      rintro e w2 ⟨rfl, rfl⟩
      go_wp2_with fail
      have hu : ({ s with needs := s.needs.set k false, going := false, ended := d17 + 1 } : Gr.St) = { s with needs := s.needs.set k false, going := false, ended := s.ended + 1 } := by rw [HD.out]
      have HG2 : Hid (RRep _ m d r q { s with needs := s.needs.set k false, going := false, ended := s.ended + 1 }) := hid (hu ▸ (HG1.out.setGoing false).setEnded (d17 + 1))
      have HF2 : Hid (Fr [m, d, r, q] w _) := hid ((HF1.out.setCell (p := ⟨m, 3, none⟩) (by simp) (.bool false)).setCell (p := ⟨m, 2, none⟩) (by simp) (.int .i64 (d17 + 1)))
      clear hu
      generalize (w2.setCell ⟨m, 3, none⟩ (.bool false)).setCell ⟨m, 2, none⟩ (.int .i64 (d17 + 1)) = w3 at HG2 HF2 ⊢
      clear hend hg1 hf2 hf3 HG1 HF1
      have HQE := hid (quiet_end HK.out (by have := HP.out; omega) HQ.out (by rw [HN.out]; decide))
      obtain ⟨u, hu⟩ : ∃ u : Gr.St, u = { s with needs := s.needs.set k false, going := false, ended := s.ended + 1 } := ⟨_, rfl⟩
      rw [← hu] at HQE HG2
      have hu8 : u.deep.length ≤ 8 := by rw [hu]; exact HO.out.le8
      have hur : u.rows.length = u.deep.length := by rw [hu]; exact HO.out.rlen
      have hun : u.needs.length = u.deep.length := by rw [hu]; simpa using HO.out.nlen
      have HU := hid (And.intro hu8 (And.intro hur hun))
      clear hu hu8 hur hun
      cases hl : u.later
      · have HL := hid hl; clear hl
        refine (later_at false m d r q u w3 HG2.out HU.out.1 HU.out.2.1 HL.out).mono ?_
        rintro e w4 ⟨rfl, t, rfl⟩
        go_wp2_with fail
        go_ret
        rw [HQE.out, HL.out]
        exact ⟨rfl, HG2.out.drewN t, HF2.out.drewN t⟩
      · have HL := hid hl; clear hl
        refine (later_at true m d r q u w3 HG2.out HU.out.1 HU.out.2.1 HL.out).mono ?_
        rintro e w4 ⟨rfl, t, rfl⟩
        go_wp2_with fail
        refine (rbegin_any m d r q u (w3.drewN t) (HG2.out.drewN t) HU.out.1 HU.out.2.2).mono ?_
        rintro e w5 ⟨rfl, HG3, HF3⟩
        have HG3 := hid HG3; have HF3 := hid HF3
        go_wp2_with fail
        go_ret
        rw [HQE.out, HL.out]
        exact ⟨rfl, HG3.out, (HF2.out.drewN t).trans HF3.out⟩
    · have HN := hid hb; clear hb
      refine (waited_at true m d r q _ w1 HG1.out HO.out.le8 HL1.out HN.out).mono ?_
      rintro e w2 ⟨rfl, rfl⟩
      go_wp2_with fail
      go_ret
      rw [quiet_more HK.out (by have := HP.out; omega) HQ.out HN.out]
      exact ⟨rfl, HG1.out, HF1.out⟩

theorem rquiet_any (m d r q : Nat) (s : Gr.St) (E c : Int) (w : World) (h : RRep w m d r q s) (ho : Gr.Ok s E) (hE : E ≤ 1000000) : Calls Try.prog 44 #[.pointer (some ⟨m, 0, none⟩), .int .i64 c] w (RGoes w m d r q (s.quiet c)) := by
  rcases nat_or c s.deep.length with ⟨k, rfl, hk⟩ | hout
  · by_cases hp : 0 < s.deep.getD k 0
    · exact rquiet_in m d r q s k w h hk hp
    · exact rquiet_on m d r q s E k w h ho hE hk hp
  · exact rquiet_early m d r q s c w h hout
end Go.Proofs.Ytkkbgohijokbhaa
