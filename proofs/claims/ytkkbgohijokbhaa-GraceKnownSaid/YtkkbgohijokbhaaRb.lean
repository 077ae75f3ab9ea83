/- the reference's machine: Depth, Done, Wanted, Waits, Lock, Unlock. -/
import Derived.Test.YtkkbgohijokbhaaRa
namespace Go.Proofs.Ytkkbgohijokbhaa
open Go.RowKit

theorem RRep.drew {w : World} {m d r q : Nat} {s : Gr.St} (h : RRep w m d r q s) : RRep w.drew m d r q s := ⟨h.main, h.deeps, h.rws, h.nds⟩
theorem RRep.drewN {w : World} {m d r q : Nat} {s : Gr.St} (h : RRep w m d r q s) (n : Nat) : RRep (w.drewN n) m d r q s := ⟨h.main, h.deeps, h.rws, h.nds⟩

set_option maxHeartbeats 800000 in
theorem rdepth_any (m d r q : Nat) (s : Gr.St) (c : Int) (w : World) (h : RRep w m d r q s) (_h8 : s.deep.length ≤ 8) : Calls Try.prog 48 #[.pointer (some ⟨m, 0, none⟩), .int .i64 c] w fun e w' => e = .returned (.int .i64 (depthOf s c)) ∧ w = w' := by
  have hm := h.m0
  rcases nat_or c s.deep.length with ⟨k, rfl, hk⟩ | hout
  · have hd := h.deepAt hk
    have HL := hid (depthOf_nat hk)
    obtain ⟨x, hx⟩ : ∃ d, d = s.deep.getD k 0 := ⟨_, rfl⟩
    rw [← hx] at hd
    have HX := hid hx
    obtain ⟨n, hn⟩ : ∃ n, n = s.deep.length := ⟨_, rfl⟩
    rw [← hn] at hm hk _h8
    clear h hx hn
    go_enter Try.func48, Try.ntmps48
    go_wp2_with fail
    refine (has_yes m d n k _ hm hk).mono ?_
    rintro e w1 ⟨rfl, rfl⟩
    go_wp2_with fail
    go_ret
    exact ⟨ret_int (by rw [HL.out, ← HX.out]), rfl⟩
  · have HL := hid (depthOf_out hout)
    have HO := hid hout
    clear hout h
    go_enter Try.func48, Try.ntmps48
    go_wp2_with fail
    refine (has_no m d _ c _ hm HO.out).mono ?_
    rintro e w1 ⟨rfl, rfl⟩
    go_wp2_with fail
    go_ret
    exact ⟨ret_int (by rw [HL.out]), rfl⟩

set_option maxHeartbeats 800000 in
theorem rdone_any (m d r q : Nat) (s : Gr.St) (w : World) (h : RRep w m d r q s) : Calls Try.prog 47 #[.pointer (some ⟨m, 0, none⟩)] w fun e w' => e = .returned (.tuple #[.int .i64 s.ended, .bool s.going]) ∧ ∃ n, w' = w.drewN n := by
  have he := h.m2
  have hg := h.m3
  clear h
  go_enter Try.func47, Try.ntmps47
  go_wp2_with fail
  go_quiet (fail)
  go_wp2_with fail
  go_ret2
  exact ⟨rfl, _, rfl⟩

set_option maxHeartbeats 800000 in
theorem rwanted_any (m d r q : Nat) (s : Gr.St) (c : Int) (w : World) (h : RRep w m d r q s) (_h8 : s.deep.length ≤ 8) (hl : s.needs.length = s.deep.length) : Calls Try.prog 50 #[.pointer (some ⟨m, 0, none⟩), .int .i64 c] w fun e w' => e = .returned (.bool (wantedOf s c)) ∧ w = w' := by
  have hm := h.m0
  have hm4 := h.m4
  rcases nat_or c s.deep.length with ⟨k, rfl, hk⟩ | hout
  · have hd := h.needAt (k := k) (by omega)
    have hg := h.m3
    have HL := hid (wantedOf_nat hk)
    obtain ⟨b, hb⟩ : ∃ b, b = s.needs.getD k false := ⟨_, rfl⟩
    obtain ⟨g, hq⟩ : ∃ q, q = s.going := ⟨_, rfl⟩
    rw [← hb] at hd; rw [← hq] at hg
    have HB := hid hb; have HQ := hid hq
    obtain ⟨n, hn⟩ : ∃ n, n = s.deep.length := ⟨_, rfl⟩
    rw [← hn] at hm hk _h8 hm4
    clear h hb hq hn hl
    cases g
    all_goals
      go_enter Try.func50, Try.ntmps50
      go_wp2_with fail
      refine (has_yes m d n k _ hm hk).mono ?_
      rintro e w1 ⟨rfl, rfl⟩
      go_wp2_with fail
      go_ret
      exact ⟨by rw [HL.out, ← HB.out, ← HQ.out]; simp, rfl⟩
  · have HL := hid (wantedOf_out hout)
    have HO := hid hout
    clear hout h hl
    go_enter Try.func50, Try.ntmps50
    go_wp2_with fail
    refine (has_no m d _ c _ hm HO.out).mono ?_
    rintro e w1 ⟨rfl, rfl⟩
    go_wp2_with fail
    go_ret
    exact ⟨by rw [HL.out]; rfl, rfl⟩

set_option maxHeartbeats 800000 in
theorem rwaits_any (m d r q : Nat) (s : Gr.St) (c : Int) (w : World) (h : RRep w m d r q s) (_h8 : s.deep.length ≤ 8) : Calls Try.prog 49 #[.pointer (some ⟨m, 0, none⟩), .int .i64 c] w fun e w' => e = .returned (.int .i64 (waitsOf s c)) ∧ w = w' := by
  have hm := h.m0
  have hm1 := h.m1
  rcases nat_or c s.deep.length with ⟨k, rfl, hk⟩ | hout
  · obtain ⟨A, N, cp, hv, -, -, hr⟩ := h.rowAt hk
    have HL := hid (waitsOf_nat hk)
    have HE := hid hr.1
    obtain ⟨n, hn⟩ : ∃ n, n = s.deep.length := ⟨_, rfl⟩
    rw [← hn] at hm hk _h8 hm1
    clear h hr hn
    go_enter Try.func49, Try.ntmps49
    go_wp2_with fail
    refine (has_yes m d n k _ hm hk).mono ?_
    rintro e w1 ⟨rfl, rfl⟩
    go_wp2_with fail
    go_ret
    exact ⟨ret_int (by rw [HL.out, HE.out]), rfl⟩
  · have HL := hid (waitsOf_out hout)
    have HO := hid hout
    clear hout h
    go_enter Try.func49, Try.ntmps49
    go_wp2_with fail
    refine (has_no m d _ c _ hm HO.out).mono ?_
    rintro e w1 ⟨rfl, rfl⟩
    go_wp2_with fail
    go_ret
    exact ⟨ret_int (by rw [HL.out]), rfl⟩

/-- what a call of the reference's machine comes to -/
def RGoes (w : World) (m d r q : Nat) (x : Gr.St × Int) (e : Ending) (w' : World) : Prop := e = .returned (.int .i64 x.2) ∧ RRep w' m d r q x.1 ∧ Fr [m, d, r, q] w w'

set_option maxHeartbeats 800000 in
theorem rlock_any (m d r q : Nat) (s : Gr.St) (E c : Int) (w : World) (h : RRep w m d r q s) (ho : Gr.Ok s E) : Calls Try.prog 42 #[.pointer (some ⟨m, 0, none⟩), .int .i64 c] w (RGoes w m d r q (s.lock c)) := by
  have H := hid h
  have hm := h.m0
  rcases nat_or c s.deep.length with ⟨k, rfl, hk⟩ | hout
  · have h8 := ho.le8
    have hd := h.deepAt hk
    have hf := h.fd k
    have hb := ho.dp k hk
    have HL := hid (lock_ok hk)
    obtain ⟨x, hx⟩ : ∃ d, d = s.deep.getD k 0 := ⟨_, rfl⟩
    rw [← hx] at hd hb
    have HD := hid hx
    obtain ⟨n, hn⟩ : ∃ n, n = s.deep.length := ⟨_, rfl⟩
    rw [← hn] at hm hk h8
    clear hx h ho hn
    by_cases h8' : x = 8
    · subst h8'
      go_enter Try.func42, Try.ntmps42
      go_wp2_with fail
      refine (has_yes m d n k _ hm hk).mono ?_
      rintro e w1 ⟨rfl, rfl⟩
      go_wp2_with fail
      go_ret
      rw [HL.out, if_pos HD.out.symm]
      exact ⟨rfl, H.out, Fr.refl _ _⟩
    · have hne : (x == 8) = false := by rw [beq_eq_false_iff_ne]; exact h8'
      have H8 := hid h8'
      clear h8'
      go_enter Try.func42, Try.ntmps42
      go_wp2_with fail
      refine (has_yes m d n k _ hm hk).mono ?_
      rintro e w1 ⟨rfl, rfl⟩
      go_wp2_with fail
      have h8 := H8.out
      have hlo : x + 1 ≤ 8 := by omega
      clear h8
      go_region
      go_wp2_with fail
      go_ret
      rw [HL.out, if_neg (by rw [← HD.out]; exact H8.out), ← HD.out]
      exact ⟨rfl, (H.out.setDeep k (x + 1)).drew, ((Fr.refl _ _).setCell (by simp) _).drew⟩
  · have HO := hid hout
    clear hout h ho
    go_enter Try.func42, Try.ntmps42
    go_wp2_with fail
    refine (has_no m d _ c _ hm HO.out).mono ?_
    rintro e w1 ⟨rfl, rfl⟩
    go_wp2_with fail
    go_ret
    rw [lock_out HO.out]
    exact ⟨rfl, H.out, Fr.refl _ _⟩

set_option maxHeartbeats 800000 in
theorem runlock_any (m d r q : Nat) (s : Gr.St) (E c : Int) (w : World) (h : RRep w m d r q s) (ho : Gr.Ok s E) : Calls Try.prog 43 #[.pointer (some ⟨m, 0, none⟩), .int .i64 c] w (RGoes w m d r q (s.unlock c)) := by
  have H := hid h
  have hm := h.m0
  rcases nat_or c s.deep.length with ⟨k, rfl, hk⟩ | hout
  · have h8 := ho.le8
    have hd := h.deepAt hk
    have hf := h.fd k
    have hb := ho.dp k hk
    have HL := hid (unlock_ok hk)
    obtain ⟨x, hx⟩ : ∃ d, d = s.deep.getD k 0 := ⟨_, rfl⟩
    rw [← hx] at hd hb
    have HD := hid hx
    obtain ⟨n, hn⟩ : ∃ n, n = s.deep.length := ⟨_, rfl⟩
    rw [← hn] at hm hk h8
    clear hx h ho hn
    by_cases h8' : x = 0
    · subst h8'
      go_enter Try.func43, Try.ntmps43
      go_wp2_with fail
      refine (has_yes m d n k _ hm hk).mono ?_
      rintro e w1 ⟨rfl, rfl⟩
      go_wp2_with fail
      go_ret
      rw [HL.out, if_pos HD.out.symm]
      exact ⟨rfl, H.out, Fr.refl _ _⟩
    · have hne : (x == 0) = false := by rw [beq_eq_false_iff_ne]; exact h8'
      have H8 := hid h8'
      clear h8'
      go_enter Try.func43, Try.ntmps43
      go_wp2_with fail
      refine (has_yes m d n k _ hm hk).mono ?_
      rintro e w1 ⟨rfl, rfl⟩
      go_wp2_with fail
      have h8 := H8.out
      have hlo : 0 ≤ x - 1 := by omega
      clear h8
      go_region
      go_wp2_with fail
      go_ret
      rw [HL.out, if_neg (by rw [← HD.out]; exact H8.out), ← HD.out]
      exact ⟨rfl, (H.out.setDeep k (x - 1)).drew, ((Fr.refl _ _).setCell (by simp) _).drew⟩
  · have HO := hid hout
    clear hout h ho
    go_enter Try.func43, Try.ntmps43
    go_wp2_with fail
    refine (has_no m d _ c _ hm HO.out).mono ?_
    rintro e w1 ⟨rfl, rfl⟩
    go_wp2_with fail
    go_ret
    rw [unlock_out HO.out]
    exact ⟨rfl, H.out, Fr.refl _ _⟩
end Go.Proofs.Ytkkbgohijokbhaa
