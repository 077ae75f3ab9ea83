/- grace.Grace: asked, New, Lock, Unlock, Depth, Done, Wanted. -/
import Derived.Test.YtkkbgohijokbhaaU
import Derived.RegionTactic
import Derived.ChangeAlike
namespace Go.Proofs.Ytkkbgohijokbhaa
open Go.RowKit

abbrev ptr (g : Nat) : Value := .pointer (some ⟨g, 0, none⟩)

set_option maxHeartbeats 400000 in
theorem asked_ok (g : Nat) (n k : Nat) (w : World) (hc : w.cell? ⟨g, 0, none⟩ = some (.int .i64 (n : Int))) (hk : k < n) :
    Calls Try.prog 53 #[.pointer (some ⟨g, 0, none⟩), .int .i64 (k : Int)] w fun e w' => e = .returned (.int .i64 0) ∧ w = w' := by
  have h0 : ((n : Int) == 0) = false := by rw [beq_eq_false_iff_ne]; omega
  have h1 : ¬ ((k : Int) < 0) := by omega
  have h2 : decide ((n : Int) ≤ (k : Int)) = false := decide_eq_false (by omega)
  go_enter Try.func53, Try.ntmps53
  go_wp2
  go_ret
  exact ⟨rfl, rfl⟩
set_option maxHeartbeats 400000 in
theorem asked_out (g : Nat) (n : Nat) (c : Int) (w : World) (hc : w.cell? ⟨g, 0, none⟩ = some (.int .i64 (n : Int))) (hn : 1 ≤ n) (hk : ¬ (0 ≤ c ∧ c < n)) :
    Calls Try.prog 53 #[.pointer (some ⟨g, 0, none⟩), .int .i64 c] w fun e w' => e = .returned (.int .i64 9) ∧ w = w' := by
  have h0 : ((n : Int) == 0) = false := by rw [beq_eq_false_iff_ne]; omega
  by_cases hneg : c < 0
  · clear hk
    go_enter Try.func53, Try.ntmps53
    go_wp2
    go_ret
    exact ⟨rfl, rfl⟩
  · have h1 : (n : Int) ≤ c := by omega
    clear hk
    go_enter Try.func53, Try.ntmps53
    go_wp2
    go_ret
    exact ⟨rfl, rfl⟩
set_option maxHeartbeats 400000 in
theorem asked_nil (c : Int) (w : World) : Calls Try.prog 53 #[.pointer none, .int .i64 c] w fun e w' => e = .returned (.int .i64 1) ∧ w = w' := by
  go_enter Try.func53, Try.ntmps53
  go_wp2
  go_ret
  exact ⟨rfl, rfl⟩
set_option maxHeartbeats 400000 in
theorem asked_zero (g : Nat) (c : Int) (w : World) (hc : w.cell? ⟨g, 0, none⟩ = some (.int .i64 0)) : Calls Try.prog 53 #[.pointer (some ⟨g, 0, none⟩), .int .i64 c] w fun e w' => e = .returned (.int .i64 1) ∧ w = w' := by
  go_enter Try.func53, Try.ntmps53
  go_wp2
  go_ret
  exact ⟨rfl, rfl⟩

/-- a processor's number is one, or none -/
theorem nat_or (c : Int) (n : Nat) : (∃ k : Nat, c = k ∧ k < n) ∨ ¬ (0 ≤ c ∧ c < n) := by
  by_cases h : 0 ≤ c ∧ c < n
  · exact .inl ⟨c.toNat, by omega, by omega⟩
  · exact .inr h
theorem toNat_nat (k : Nat) : (k : Int).toNat = k := rfl

theorem lock_ok {s : Gr.St} {k : Nat} (hk : k < s.deep.length) : s.lock (k : Int) = if s.deep.getD k 0 = 8 then (s, 5) else ({ s with deep := s.deep.set k (s.deep.getD k 0 + 1) }, 0) := by
  unfold Gr.St.lock; rw [if_pos (Gr.has_nat hk)]; rfl
theorem lock_out {s : Gr.St} {c : Int} (h : ¬ (0 ≤ c ∧ c < s.deep.length)) : s.lock c = (s, 9) := by
  unfold Gr.St.lock; rw [if_neg (by rw [Gr.has_not h]; decide)]
theorem unlock_ok {s : Gr.St} {k : Nat} (hk : k < s.deep.length) : s.unlock (k : Int) = if s.deep.getD k 0 = 0 then (s, 292) else ({ s with deep := s.deep.set k (s.deep.getD k 0 - 1) }, 0) := by
  unfold Gr.St.unlock; rw [if_pos (Gr.has_nat hk)]; rfl
theorem unlock_out {s : Gr.St} {c : Int} (h : ¬ (0 ≤ c ∧ c < s.deep.length)) : s.unlock c = (s, 9) := by
  unfold Gr.St.unlock; rw [if_neg (by rw [Gr.has_not h]; decide)]

/-- what a call of the machine's comes to: an error, and the machine behind it -/
def Goes (w : World) (g : Nat) (r : Gr.St × Int) (e : Ending) (w' : World) : Prop := e = .returned (.int .i64 r.2) ∧ GRep w' g r.1 ∧ Fr [g] w w'

set_option maxHeartbeats 800000 in
theorem lock_any (g : Nat) (s : Gr.St) (E c : Int) (w : World) (h : GRep w g s) (ho : Gr.Ok s E) : Calls Try.prog 31 #[.pointer (some ⟨g, 0, none⟩), .int .i64 c] w (Goes w g (s.lock c)) := by
  have H := hid h
  have hcpu := h.cpus
  rcases nat_or c s.deep.length with ⟨k, rfl, hk⟩ | hout
  · have hk8 : k < 8 := Nat.lt_of_lt_of_le hk ho.le8
    have hd := h.deepAt k hk8
    have hf := h.frozen (1 + k)
    have hb := ho.dp k hk
    have HL := hid (lock_ok hk)
    obtain ⟨d, hd'⟩ : ∃ d, d = s.deep.getD k 0 := ⟨_, rfl⟩
    rw [← hd'] at hd hb
    have HD := hid hd'
    clear hd' h ho
    by_cases h8 : d = 8
    · subst h8
      go_enter Try.func31, Try.ntmps31
      go_wp2_with fail
      refine (asked_ok g _ k _ hcpu hk).mono ?_
      rintro e w1 ⟨rfl, rfl⟩
      go_wp2_with fail
      go_ret
      rw [HL.out, if_pos HD.out.symm]
      exact ⟨rfl, H.out, Fr.refl _ _⟩
    · have hne : (d == 8) = false := by rw [beq_eq_false_iff_ne]; exact h8
      have H8 := hid h8
      clear h8
      go_enter Try.func31, Try.ntmps31
      go_wp2_with fail
      refine (asked_ok g _ k _ hcpu hk).mono ?_
      rintro e w1 ⟨rfl, rfl⟩
      go_wp2_with fail
      have h8 := H8.out
      have hlo : d + 1 ≤ 8 := by omega
      clear h8
      go_region
      go_wp2_with fail
      go_ret
      rw [HL.out, if_neg (by rw [← HD.out]; exact H8.out), ← HD.out]
      exact ⟨rfl, H.out.setDeep k hk hk8 (d + 1), ((Fr.refl _ _).setCell (by simp) _).drew⟩
  · have HO := hid hout
    have hp := ho.pos
    clear hout h ho
    go_enter Try.func31, Try.ntmps31
    go_wp2_with fail
    refine (asked_out g _ c _ hcpu hp HO.out).mono ?_
    rintro e w1 ⟨rfl, rfl⟩
    go_wp2_with fail
    go_ret
    rw [lock_out HO.out]
    exact ⟨rfl, H.out, Fr.refl _ _⟩

set_option maxHeartbeats 800000 in
theorem unlock_any (g : Nat) (s : Gr.St) (E c : Int) (w : World) (h : GRep w g s) (ho : Gr.Ok s E) : Calls Try.prog 32 #[.pointer (some ⟨g, 0, none⟩), .int .i64 c] w (Goes w g (s.unlock c)) := by
  have H := hid h
  have hcpu := h.cpus
  rcases nat_or c s.deep.length with ⟨k, rfl, hk⟩ | hout
  · have hk8 : k < 8 := Nat.lt_of_lt_of_le hk ho.le8
    have hd := h.deepAt k hk8
    have hf := h.frozen (1 + k)
    have hb := ho.dp k hk
    have HL := hid (unlock_ok hk)
    obtain ⟨d, hd'⟩ : ∃ d, d = s.deep.getD k 0 := ⟨_, rfl⟩
    rw [← hd'] at hd hb
    have HD := hid hd'
    clear hd' h ho
    by_cases h8 : d = 0
    · subst h8
      go_enter Try.func32, Try.ntmps32
      go_wp2_with fail
      refine (asked_ok g _ k _ hcpu hk).mono ?_
      rintro e w1 ⟨rfl, rfl⟩
      go_wp2_with fail
      go_ret
      rw [HL.out, if_pos HD.out.symm]
      exact ⟨rfl, H.out, Fr.refl _ _⟩
    · have hne : (d == 0) = false := by rw [beq_eq_false_iff_ne]; exact h8
      have H8 := hid h8
      clear h8
      go_enter Try.func32, Try.ntmps32
      go_wp2_with fail
      refine (asked_ok g _ k _ hcpu hk).mono ?_
      rintro e w1 ⟨rfl, rfl⟩
      go_wp2_with fail
      have h8 := H8.out
      have hlo : 0 ≤ d - 1 := by omega
      clear h8
      go_region
      go_wp2_with fail
      go_ret
      rw [HL.out, if_neg (by rw [← HD.out]; exact H8.out), ← HD.out]
      exact ⟨rfl, H.out.setDeep k hk hk8 (d - 1), ((Fr.refl _ _).setCell (by simp) _).drew⟩
  · have HO := hid hout
    have hp := ho.pos
    clear hout h ho
    go_enter Try.func32, Try.ntmps32
    go_wp2_with fail
    refine (asked_out g _ c _ hcpu hp HO.out).mono ?_
    rintro e w1 ⟨rfl, rfl⟩
    go_wp2_with fail
    go_ret
    rw [unlock_out HO.out]
    exact ⟨rfl, H.out, Fr.refl _ _⟩


theorem new_cells (n : Nat) (_h1 : 1 ≤ n) (_h8 : n ≤ 8) (w : World) (cs : Array Value) (hcs : cs = #[.int .i64 (n : Int), .int .i64 0, .int .i64 0, .int .i64 0, .int .i64 0, .int .i64 0, .int .i64 0, .int .i64 0, .int .i64 0,
    .nilIface, .nilIface, .nilIface, .nilIface, .nilIface, .nilIface, .nilIface, .nilIface, .int .i64 0, .bool false, .bool false, .bool false, .bool false, .bool false, .bool false, .bool false, .bool false, .bool false]) :
    GRep (w.alloc (.cells cs 63)) w.heap.size (Gr.new n) := by
  refine ⟨cs, Blk.new w 63 cs, by rw [hcs]; rfl, by rw [hcs]; simp [Gr.new], fun j hj => ?_, fun j hj => ⟨.nilIface, ?_, .inl ⟨rfl, ?_⟩⟩, by rw [hcs]; simp [Gr.new], by rw [hcs]; simp [Gr.new], fun j hj => ?_⟩
  · have : (Gr.new n).deep.getD j 0 = 0 := by simp [Gr.new, List.getD_eq_getElem?_getD, List.getElem?_replicate]; split <;> rfl
    rw [this, hcs]
    match j, hj with
    | 0, _ | 1, _ | 2, _ | 3, _ | 4, _ | 5, _ | 6, _ | 7, _ => rfl
  · rw [hcs]
    match j, hj with
    | 0, _ | 1, _ | 2, _ | 3, _ | 4, _ | 5, _ | 6, _ | 7, _ => rfl
  · simp [Gr.new, List.getD_eq_getElem?_getD, List.getElem?_replicate]; split <;> rfl
  · have : (Gr.new n).needs.getD j false = false := by simp [Gr.new, List.getD_eq_getElem?_getD, List.getElem?_replicate]; split <;> rfl
    rw [this, hcs]
    match j, hj with
    | 0, _ | 1, _ | 2, _ | 3, _ | 4, _ | 5, _ | 6, _ | 7, _ => rfl

set_option maxHeartbeats 800000 in
theorem new_ok (n : Nat) (h1 : 1 ≤ n) (h8 : n ≤ 8) (w : World) : Calls Try.prog 24 #[.int .i64 (n : Int)] w fun e w' => ∃ g, e = .returned (.tuple #[.pointer (some ⟨g, 0, none⟩), .int .i64 0]) ∧ w.heap.size ≤ g ∧ GRep w' g (Gr.new n) ∧ Below w.heap.size w w' := by
  go_enter Try.func24, Try.ntmps24
  go_wp2
  go_ret2
  exact ⟨w.heap.size, rfl, Nat.le_refl _, new_cells n h1 h8 w _ rfl, (Below.refl _ _).alloc (Nat.le_refl _) _⟩
set_option maxHeartbeats 800000 in
theorem new_bad (c : Int) (h : c < 1 ∨ 8 < c) (w : World) : Calls Try.prog 24 #[.int .i64 c] w fun e w' => e = .returned (.tuple #[.pointer none, .int .i64 2]) ∧ w = w' := by
  rcases h with h | h
  · go_enter Try.func24, Try.ntmps24
    go_wp2
    go_ret2
    exact ⟨rfl, rfl⟩
  · have h' : ¬ c < 1 := by omega
    go_enter Try.func24, Try.ntmps24
    go_wp2
    go_ret2
    exact ⟨rfl, rfl⟩
end Go.Proofs.Ytkkbgohijokbhaa
