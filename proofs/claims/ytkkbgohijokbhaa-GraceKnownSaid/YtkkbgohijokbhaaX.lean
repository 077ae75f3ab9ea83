/- grace.Grace: Depth, Done, Wanted, Waits, row, begin. -/
import Derived.Test.YtkkbgohijokbhaaV
namespace Go.Proofs.Ytkkbgohijokbhaa
open Go.RowKit

theorem ta_nil (w : World) : (Instr.typeAssert .nilIface 20 22 true).run Try.prog w = .ok (.tuple #[.slice none 0 0, .bool false]) w := by kernel_rfl
theorem ta_row (A : Option Addr) (n c : Nat) (w : World) : (Instr.typeAssert (.iface 22 (.slice A n c)) 20 22 true).run Try.prog w = .ok (.tuple #[.slice A n c, .bool true]) w := by kernel_rfl
theorem ta_one (A : Option Addr) (n c : Nat) (w : World) : (Instr.typeAssert (.iface 22 (.slice A n c)) 20 22 false).run Try.prog w = .ok (.slice A n c) w := by kernel_rfl

def depthOf (s : Gr.St) (c : Int) : Int := if s.has c then s.dp c else 0
def waitsOf (s : Gr.St) (c : Int) : Int := if s.has c then (s.row c).length else 0
def wantedOf (s : Gr.St) (c : Int) : Bool := s.has c && s.going && s.nd c
theorem depthOf_nat {s : Gr.St} {k : Nat} (hk : k < s.deep.length) : depthOf s (k : Int) = s.deep.getD k 0 := by unfold depthOf; rw [if_pos (Gr.has_nat hk)]; rfl
theorem depthOf_out {s : Gr.St} {c : Int} (h : ¬ (0 ≤ c ∧ c < s.deep.length)) : depthOf s c = 0 := by unfold depthOf; rw [if_neg (by rw [Gr.has_not h]; decide)]
theorem waitsOf_nat {s : Gr.St} {k : Nat} (hk : k < s.deep.length) : waitsOf s (k : Int) = ((s.rows.getD k []).length : Int) := by unfold waitsOf; rw [if_pos (Gr.has_nat hk)]; rfl
theorem waitsOf_out {s : Gr.St} {c : Int} (h : ¬ (0 ≤ c ∧ c < s.deep.length)) : waitsOf s c = 0 := by unfold waitsOf; rw [if_neg (by rw [Gr.has_not h]; decide)]
theorem wantedOf_nat {s : Gr.St} {k : Nat} (hk : k < s.deep.length) : wantedOf s (k : Int) = (s.going && s.needs.getD k false) := by unfold wantedOf; rw [Gr.has_nat hk]; simp [Gr.St.nd]
theorem wantedOf_out {s : Gr.St} {c : Int} (h : ¬ (0 ≤ c ∧ c < s.deep.length)) : wantedOf s c = false := by unfold wantedOf; rw [Gr.has_not h]; rfl

set_option maxHeartbeats 800000 in
theorem depth_any (g : Nat) (s : Gr.St) (E c : Int) (w : World) (h : GRep w g s) (ho : Gr.Ok s E) : Calls Try.prog 35 #[.pointer (some ⟨g, 0, none⟩), .int .i64 c] w fun e w' => e = .returned (.int .i64 (depthOf s c)) ∧ w = w' := by
  have hcpu := h.cpus
  rcases nat_or c s.deep.length with ⟨k, rfl, hk⟩ | hout
  · have hk8 := Nat.lt_of_lt_of_le hk ho.le8
    have hd := h.deepAt k hk8
    have HL := hid (depthOf_nat hk)
    obtain ⟨d, hd'⟩ : ∃ d, d = s.deep.getD k 0 := ⟨_, rfl⟩
    rw [← hd'] at hd
    have HD := hid hd'
    clear h ho hd'
    go_enter Try.func35, Try.ntmps35
    go_wp2_with fail
    refine (asked_ok g _ k _ hcpu hk).mono ?_
    rintro e w1 ⟨rfl, rfl⟩
    go_wp2_with fail
    go_ret
    exact ⟨ret_int (by rw [HL.out, ← HD.out]), rfl⟩
  · have HL := hid (depthOf_out hout)
    have HO := hid hout
    have hp := ho.pos
    clear hout h ho
    go_enter Try.func35, Try.ntmps35
    go_wp2_with fail
    refine (asked_out g _ c _ hcpu hp HO.out).mono ?_
    rintro e w1 ⟨rfl, rfl⟩
    go_wp2_with fail
    go_ret
    exact ⟨ret_int (by rw [HL.out]), rfl⟩

set_option maxHeartbeats 800000 in
theorem done_any (g : Nat) (s : Gr.St) (E : Int) (w : World) (h : GRep w g s) (ho : Gr.Ok s E) : Calls Try.prog 30 #[.pointer (some ⟨g, 0, none⟩)] w fun e w' => e = .returned (.tuple #[.int .i64 s.ended, .bool s.going]) ∧ ∃ n, w' = w.drewN n := by
  have hcpu := h.cpus
  have he := h.endedAt
  have hg := h.goingAt
  have hp := ho.pos
  clear h ho
  go_enter Try.func30, Try.ntmps30
  go_wp2_with fail
  refine (asked_ok g _ 0 _ hcpu hp).mono ?_
  rintro e w1 ⟨rfl, rfl⟩
  go_wp2_with fail
  go_quiet (fail)
  go_wp2_with fail
  go_ret2
  exact ⟨rfl, _, rfl⟩

set_option maxHeartbeats 800000 in
theorem wanted_any (g : Nat) (s : Gr.St) (E c : Int) (w : World) (h : GRep w g s) (ho : Gr.Ok s E) : Calls Try.prog 37 #[.pointer (some ⟨g, 0, none⟩), .int .i64 c] w fun e w' => e = .returned (.bool (wantedOf s c)) ∧ w = w' := by
  have hcpu := h.cpus
  rcases nat_or c s.deep.length with ⟨k, rfl, hk⟩ | hout
  · have hd := h.needAt k (Nat.lt_of_lt_of_le hk ho.le8)
    have hg := h.goingAt
    have hk8 := Nat.lt_of_lt_of_le hk ho.le8
    have HL := hid (wantedOf_nat hk)
    obtain ⟨b, hb⟩ : ∃ b, b = s.needs.getD k false := ⟨_, rfl⟩
    obtain ⟨q, hq⟩ : ∃ q, q = s.going := ⟨_, rfl⟩
    rw [← hb] at hd; rw [← hq] at hg
    have HB := hid hb; have HQ := hid hq
    clear h ho hb hq
    cases q
    all_goals
      go_enter Try.func37, Try.ntmps37
      go_wp2_with fail
      refine (asked_ok g _ k _ hcpu hk).mono ?_
      rintro e w1 ⟨rfl, rfl⟩
      go_wp2_with fail
      go_ret
      exact ⟨by rw [HL.out, ← HB.out, ← HQ.out]; simp, rfl⟩
  · have HL := hid (wantedOf_out hout)
    have HO := hid hout
    have hp := ho.pos
    clear hout h ho
    go_enter Try.func37, Try.ntmps37
    go_wp2_with fail
    refine (asked_out g _ c _ hcpu hp HO.out).mono ?_
    rintro e w1 ⟨rfl, rfl⟩
    go_wp2_with fail
    go_ret
    exact ⟨by rw [HL.out]; rfl, rfl⟩

set_option maxHeartbeats 800000 in
theorem waits_any (g : Nat) (s : Gr.St) (E c : Int) (w : World) (h : GRep w g s) (ho : Gr.Ok s E) : Calls Try.prog 36 #[.pointer (some ⟨g, 0, none⟩), .int .i64 c] w fun e w' => e = .returned (.int .i64 (waitsOf s c)) ∧ w = w' := by
  have hcpu := h.cpus
  rcases nat_or c s.deep.length with ⟨k, rfl, hk⟩ | hout
  · have hk8 := Nat.lt_of_lt_of_le hk ho.le8
    obtain ⟨v, hv, hrv⟩ := h.rowAt k hk8
    have HL := hid (waitsOf_nat hk)
    have q1 := ta_one
    rcases hrv with ⟨rfl, hl⟩ | ⟨A, N, c, rfl, h1, h2, h3⟩
    · have HE := hid hl
      clear h ho hl
      go_enter Try.func36, Try.ntmps36
      go_wp2_with fail
      refine (asked_ok g _ k _ hcpu hk).mono ?_
      rintro e w1 ⟨rfl, rfl⟩
      go_wp2_with fail
      go_ret
      exact ⟨ret_int (by rw [HL.out, HE.out]; rfl), rfl⟩
    · have HE := hid h3.1
      clear h ho h3
      go_enter Try.func36, Try.ntmps36
      go_wp2_with fail
      refine (asked_ok g _ k _ hcpu hk).mono ?_
      rintro e w1 ⟨rfl, rfl⟩
      go_wp2_with fail
      go_ret
      exact ⟨ret_int (by rw [HL.out, HE.out]), rfl⟩
  · have HL := hid (waitsOf_out hout)
    have HO := hid hout
    have hp := ho.pos
    clear hout h ho
    go_enter Try.func36, Try.ntmps36
    go_wp2_with fail
    refine (asked_out g _ c _ hcpu hp HO.out).mono ?_
    rintro e w1 ⟨rfl, rfl⟩
    go_wp2_with fail
    go_ret
    exact ⟨ret_int (by rw [HL.out]), rfl⟩

set_option maxHeartbeats 800000 in
theorem row_of (g : Nat) (s : Gr.St) (k : Nat) (w : World) (h : GRep w g s) (hk : k < 8) : Calls Try.prog 54 #[.pointer (some ⟨g, 0, none⟩), .int .i64 (k : Int)] w fun e w' =>
    ∃ A N c, e = .returned (.slice A N c) ∧ N ≤ c ∧ c ≤ maxLen ∧ OwnR w 0 A N (s.rows.getD k []) ∧ w = w' := by
  obtain ⟨v, hv, hrv⟩ := h.rowAt k hk
  have q1 := ta_row
  have q2 := ta_nil
  rcases hrv with ⟨rfl, hl⟩ | ⟨A, N, c, rfl, h1, h2, h3⟩
  · have HE := hid hl
    clear h hl
    go_enter Try.func54, Try.ntmps54
    go_wp2_with fail
    go_ret
    exact ⟨none, 0, 0, rfl, Nat.le_refl _, Nat.zero_le _, by rw [HE.out]; exact OwnR.nil _ _ _, rfl⟩
  · have HE := hid h3
    clear h h3
    go_enter Try.func54, Try.ntmps54
    go_wp2_with fail
    go_ret
    exact ⟨A, N, c, rfl, h1, h2, HE.out, rfl⟩
end Go.Proofs.Ytkkbgohijokbhaa
