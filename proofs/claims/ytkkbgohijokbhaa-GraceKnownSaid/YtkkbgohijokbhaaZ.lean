/- grace.Grace: Poll. -/
import Derived.Test.YtkkbgohijokbhaaY
import Derived.Deep.RegionHeld3
namespace Go.Proofs.Ytkkbgohijokbhaa
open Go.RowKit

theorem ints_mono {w : World} {b b' : Nat} {v : Value} {l : List Int} (h : b' ≤ b) (hI : IsInts w b v l) : IsInts w b' v l := by
  unfold IsInts at hI ⊢
  exact ⟨hI.1, hI.2.imp id fun ⟨g, cap, cur, hv, hb, r⟩ => ⟨g, cap, cur, hv, Nat.le_trans h hb, r⟩⟩
theorem ints_fr {w w' : World} {b : Nat} {S : List Nat} {v : Value} {l : List Int} (hI : IsInts w b v l) (hf : Fr S w w') (hS : ∀ g ∈ S, g < b) : IsInts w' b v l := by
  unfold IsInts at hI ⊢
  refine ⟨hI.1, hI.2.imp id fun ⟨g, cap, cur, hv, hb, hg, r⟩ => ⟨g, cap, cur, hv, hb, (hf.block g (Array.getElem?_eq_some_iff.1 hg).1 (fun hm => ?_)).trans hg, r⟩⟩
  have := hS g hm
  omega
theorem row_v (g k : Nat) (hk : k < 8) (v : Value) (A : Option Addr) (N c : Nat) (hv : (v = .nilIface ∧ A = none ∧ N = 0 ∧ c = 0) ∨ v = .iface 22 (.slice A N c)) (w : World) (hc : w.cell? ⟨g, 9 + k, none⟩ = some v) :
    Calls Try.prog 54 #[.pointer (some ⟨g, 0, none⟩), .int .i64 (k : Int)] w fun e w' => e = .returned (.slice A N c) ∧ w = w' := by
  have q1 := ta_row
  have q2 := ta_nil
  rcases hv with ⟨rfl, rfl, rfl, rfl⟩ | rfl
  · go_enter Try.func54, Try.ntmps54
    go_wp2_with fail
    go_ret
    exact ⟨rfl, rfl⟩
  · go_enter Try.func54, Try.ntmps54
    go_wp2_with fail
    go_ret
    exact ⟨rfl, rfl⟩
/-- a processor's row, as 'row' answers it in any world in which its cell is the same -/
theorem row_lit (g : Nat) (s : Gr.St) (k : Nat) (w : World) (h : GRep w g s) (hk : k < 8) : ∃ v A N c, w.cell? ⟨g, 9 + k, none⟩ = some v ∧ N ≤ c ∧ c ≤ maxLen ∧ OwnR w 0 A N (s.rows.getD k []) ∧
    (∀ W : World, W.cell? ⟨g, 9 + k, none⟩ = some v → Calls Try.prog 54 #[.pointer (some ⟨g, 0, none⟩), .int .i64 (k : Int)] W fun e w' => e = .returned (.slice A N c) ∧ W = w') := by
  obtain ⟨v, hv, hrv⟩ := h.rowAt k hk
  rcases hrv with ⟨rfl, hl⟩ | ⟨A, N, c, rfl, h1, h2, h3⟩
  · exact ⟨_, none, 0, 0, hv, Nat.le_refl _, Nat.zero_le _, by rw [hl]; exact OwnR.nil _ _ _, fun W hW => row_v g k hk _ none 0 0 (.inl ⟨rfl, rfl, rfl, rfl⟩) W hW⟩
  · exact ⟨_, A, N, c, hv, h1, h2, h3, fun W hW => row_v g k hk _ A N c (.inr rfl) W hW⟩

theorem poll_out {s : Gr.St} {c : Int} (h : ¬ (0 ≤ c ∧ c < s.deep.length)) : s.poll c = (s, [], 9) := by
  unfold Gr.St.poll; rw [if_neg (by rw [Gr.has_not h]; decide)]
theorem poll_ok {s : Gr.St} {k : Nat} (hk : k < s.deep.length) {ids : List Int} {rest : List Gr.Rec} {E : Int} (hE : readyAns (s.rows.getD k []) s.ended = (ids, rest, E)) :
    s.poll (k : Int) = if E = 0 then ({ s with rows := s.rows.set k rest }, ids, 0) else (s, ids, E) := by
  unfold Gr.St.poll; rw [if_pos (Gr.has_nat hk)]
  unfold readyAns at hE
  show (if Gr.check (s.rows.getD k []) ≠ 0 then (s, [], Gr.check (s.rows.getD k [])) else ({ s with rows := s.rows.set k (Gr.readyRest (s.rows.getD k []) s.ended) }, Gr.readyIds (s.rows.getD k []) s.ended, 0)) = _
  by_cases h0 : Gr.check (s.rows.getD k []) = 0
  · rw [if_pos h0] at hE
    cases hE
    rw [if_neg (fun h => h h0), if_pos rfl]
  · rw [if_neg h0] at hE
    cases hE
    rw [if_pos h0, if_neg h0]

/-- what Poll comes to -/
def Polls (w : World) (g : Nat) (r : Gr.St × List Int × Int) (e : Ending) (w' : World) : Prop :=
  ∃ v, e = .returned (.tuple #[v, .int .i64 r.2.2]) ∧ IsInts w' w.heap.size v r.2.1 ∧ GRep w' g r.1 ∧ Fr [g] w w'

/-- Ready in the middle of a region in which the machine's cells are held -/
theorem ready_held (g k : Nat) (v : Value) (A : Option Addr) (N c : Nat) (l : List Gr.Rec) (d : Int) (ids : List Int) (rest : List Gr.Rec) (E : Int) (w W : World)
    (hS : W.cell? ⟨g, 17, none⟩ = some (.int .i64 d) ∧ W.cell? ⟨g, 9 + k, none⟩ = some v ∧ Hid (RD W A N l) ∧ Hid (Below w.heap.size w W)) (hm : N ≤ maxLen) (hE : readyAns l d = (ids, rest, E)) :
    Calls Try.prog 21 #[.slice A N c, .int .i64 d] W fun e w' => ∃ v2 A2 N2 c2, e = .returned (.tuple #[v2, .slice A2 N2 c2, .int .i64 E]) ∧ w'.cell? ⟨g, 17, none⟩ = some (.int .i64 d) ∧ w'.cell? ⟨g, 9 + k, none⟩ = some v ∧ Hid (RD w' A N l) ∧
      Hid (Below w.heap.size w w') ∧ Hid (IsInts w' w.heap.size v2 ids) ∧ Hid (N2 ≤ c2 ∧ c2 ≤ maxLen) ∧ Hid (OwnR w' 0 A2 N2 rest) := by
  refine (ready_at ids rest E A N c l d W hS.2.2.1.out hm hE).mono ?_
  rintro e w2 ⟨v2, u2, rfl, hI, ⟨A2, N2, c2, rfl, hc2, hm2, hr2⟩, hb2⟩
  exact ⟨v2, A2, N2, c2, rfl, (hb2.cell (World.block_lt_of_cell? _ _ hS.1)).trans hS.1, (hb2.cell (World.block_lt_of_cell? _ _ hS.2.1)).trans hS.2.1, hid (hS.2.2.1.out.below hb2), hid (below_trans' hS.2.2.2.out hb2),
    hid (ints_mono hS.2.2.2.out.size hI), hid ⟨hc2, hm2⟩, hid (hr2.mono (Nat.zero_le _))⟩

set_option maxHeartbeats 1600000 in
theorem poll_any (g : Nat) (s : Gr.St) (E c : Int) (w : World) (h : GRep w g s) (ho : Gr.Ok s E) : Calls Try.prog 29 #[.pointer (some ⟨g, 0, none⟩), .int .i64 c] w (Polls w g (s.poll c)) := by
  have H := hid h
  have hcpu := h.cpus
  rcases nat_or c s.deep.length with ⟨k, rfl, hk⟩ | hout
  · have hk8 : k < 8 := Nat.lt_of_lt_of_le hk ho.le8
    have hkr : k < s.rows.length := by rw [ho.rlen]; exact hk
    obtain ⟨v, A, N, cp, hv, hNc, hcm, hrow, hcall⟩ := row_lit g s k w h hk8
    have hend := h.endedAt
    have hf := h.frozen (9 + k)
    obtain ⟨d, hd⟩ : ∃ d, d = s.ended := ⟨_, rfl⟩
    rw [← hd] at hend
    obtain ⟨⟨ids, rest, Er⟩, hA⟩ : ∃ r, readyAns (s.rows.getD k []) d = r := ⟨_, rfl⟩
    have HP := hid (poll_ok (ids := ids) (rest := rest) (E := Er) hk (by rw [← hd]; exact hA))
    have HA := hid hA; have HC := hid hcall; have HR := hid hrow.rd
    clear hd h ho hA hcall hrow
    go_enter Try.func29, Try.ntmps29
    go_wp2_with fail
    refine (asked_ok g _ k _ hcpu hk).mono ?_
    rintro e w1 ⟨rfl, rfl⟩
    go_wp2_with fail
    go_region_held3 (fun W => W.cell? ⟨g, 17, none⟩ = some (.int .i64 d) ∧ W.cell? ⟨g, 9 + k, none⟩ = some v ∧ Hid (RD W A N (s.rows.getD k [])) ∧ Hid (Below w.heap.size w W)) (first | exact ⟨hend, hv, HR, (Below.refl _ _).drew⟩ | exact ⟨hend2, hv2, HR2, HB2⟩)
      (first
        | (go_at_call 54; refine (HC.out _ ?_).mono ?_; (simp [*]); rintro e w' ⟨rfl, rfl⟩)
        | (go_at_call 21; refine (ready_held g k v A N cp (s.rows.getD k []) d ids rest Er w _ ?_ (Nat.le_trans hNc hcm) HA.out).mono ?_; assumption; rintro e w2 ⟨v2, A2, N2, c2, rfl, hend2, hv2, HR2, HB2, HI, HM, HO2⟩))
    have HG2 := hid (H.out.below HB2.out)
    have hf2 := HG2.out.frozen (9 + k)
    by_cases hz : Er = 0
    · subst hz
      have hg := H.out.lt
      have HP0 := hid (HP.out.trans (if_pos rfl)); clear HP
      go_wp2_with fail
      go_ret2
      rw [HP0.out]
      have hfr : Fr [g] _ _ := (Fr.of_below HB2.out [g]).setCell (p := ⟨g, 9 + k, none⟩) (by simp) (.iface 22 (.slice A2 N2 c2))
      exact ⟨v2, rfl, ints_fr HI.out ((Fr.refl [g] _).setCell (p := ⟨g, 9 + k, none⟩) (by simp) (.iface 22 (.slice A2 N2 c2))) (fun b hb => by simp at hb; subst hb; exact hg), HG2.out.setRow k hkr hk8 _ _ (.inr ⟨A2, N2, c2, rfl, HM.out.1, HM.out.2, HO2.out⟩), hfr⟩
    · have hz' : (Er == 0) = false := by rw [beq_eq_false_iff_ne]; exact hz
      have HZ := hid hz; clear hz
      go_wp2_with fail
      go_ret2
      rw [HP.out, if_neg HZ.out]
      exact ⟨v2, rfl, HI.out, HG2.out, Fr.of_below HB2.out [g]⟩
  · have HO := hid hout
    have hp := ho.pos
    clear hout h ho
    go_enter Try.func29, Try.ntmps29
    go_wp2_with fail
    refine (asked_out g _ c _ hcpu hp HO.out).mono ?_
    rintro e w1 ⟨rfl, rfl⟩
    go_wp2_with fail
    go_ret2
    rw [poll_out HO.out]
    exact ⟨_, rfl, IsInts.nil _ _, H.out, Fr.refl _ _⟩
end Go.Proofs.Ytkkbgohijokbhaa
