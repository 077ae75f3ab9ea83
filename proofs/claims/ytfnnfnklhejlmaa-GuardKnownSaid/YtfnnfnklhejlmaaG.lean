/- CopyBytes; guard.must. -/
import Derived.Test.YtfnnfnklhejlmaaF
namespace Go.Proofs.Ytfnnfnklhejlmaa
open Go.RowKit

theorem copybytes_any (A : Option Addr) (n c : Nat) (l : List Int) (w : World) (h : RB w A n l) (hm : n ≤ 140737488355328) :
    Calls Try.prog 14 #[.slice A n c] w fun e w' => ∃ v, e = .returned v ∧ IsB w' w.heap.size v l ∧ Below w.heap.size w w' := by
  obtain ⟨i0, hi0, hz0, hz1, hz2⟩ := info_parts info5
  have H := hid h; clear h
  go_enter Try.func14, Try.ntmps14
  go_wp2_with (at_builtin; refine wpList_append_any _ rfl (.tmp 4) (.tmp 5) 22 rfl w.heap.size 5 i0 _ 1 1 Try.underlying22 hi0 hz0 hz1 hz2 rfl (by decide) _ 0 [] rfl (World.ownsRow_nil _ _ _ _) A n c (cellsU l) rfl H.out.2 (cellsU_one _) (by unfold maxLen; omega) (by omega) (Nat.le_refl _) ?_)
  intro v2 w2 hown2 hg2 _
  have hb2 : Below w.heap.size w w2 := (Below.refl _ _).grown hg2 (Nat.le_refl _) (by simp [Value.ownBlock])
  have HO2 := hid hown2; have HB2 := hid hb2; clear hown2 hb2 hg2
  go_wp2
  go_ret
  exact ⟨_, rfl, IsB.of_own (by simpa using HO2.out), HB2.out⟩

/-- the first place where l is not as r -/
def diffAt (l r : List Int) (k : Nat) : Prop := k < l.length ∧ (∃ x y, l[k]? = some x ∧ r[k]? = some y ∧ x ≠ y) ∧ ∀ j, j < k → l[j]? = r[j]?

set_option maxHeartbeats 1600000 in
/-- all as it must be -/
theorem must_ok (A B : Option Addr) (n c m d : Nat) (l r : List Int) (z : Int) (w : World) (hl : RB w A n l) (hr : RB w B m r) (hn : n ≤ 1048576) (hnm : n ≤ m) (hd : ∀ j, j < n → l[j]? = r[j]?) :
    Calls Try.prog 25 #[.slice A n c, .slice B m d, .int .i64 z] w fun e w' => e = .returned (.tuple #[]) ∧ w' = w := by
  have HL := hid hl; have HR := hid hr; have HD := hid hd
  clear hl hr hd
  go_enter Try.func25, Try.ntmps25
  go_wp2_with fail
  go_loopw [10] (fun i wr => ∃ k : Nat, k ≤ n ∧ i = .int .i64 k ∧ wr = w) (fun i _ => n - (intOf i).toNat)
  case atStart => exact ⟨0, Nat.zero_le _, rfl, rfl⟩
  case round =>
    obtain ⟨k, hk, rfl, rfl⟩ := hrel
    by_cases hlt : k < n
    · obtain ⟨x, hx⟩ : ∃ x, l[k]? = some x := ⟨_, List.getElem?_eq_getElem (by rw [← HL.out.1]; exact hlt)⟩
      obtain ⟨b, o, rfl, hb, c1⟩ := HL.out.get k x hx
      obtain ⟨b2, o2, rfl, hb2, c2⟩ := HR.out.get k x (by rw [← HD.out k hlt]; exact hx)
      have hkm : k < m := by omega
      clear hx
      go_wp2_with fail
      go_roundw
      case rel => exact ⟨k + 1, by omega, by go_num, trivial⟩
      case measure => simp [intOf]; omega
    · obtain rfl : k = n := by omega
      go_wp2_with fail
      exact bodyPost_end (results_none rfl _ _ _) rfl ⟨rfl, rfl⟩

set_option maxHeartbeats 1600000 in
/-- the first that is not as it must be: a panic that tells its place -/
theorem must_bad (A B : Option Addr) (n c m d : Nat) (l r : List Int) (z : Nat) (p : Nat) (w : World) (hl : RB w A n l) (hr : RB w B m r) (hn : n ≤ 1048576) (hnm : n ≤ m) (hz : z ≤ 1048576) (hp : p < n) (hd : ∀ j, j < p → l[j]? = r[j]?) (hne : l[p]? ≠ r[p]?) :
    Calls Try.prog 25 #[.slice A n c, .slice B m d, .int .i64 (z : Int)] w fun e w' => e = .panicked [{ v := .iface 41 (.int .i64 ((z + p : Nat) : Int)), recovered := false }] ∧ w' = w := by
  have HL := hid hl; have HR := hid hr; have HD := hid hd; have HNE := hid hne
  clear hl hr hd hne
  go_enter Try.func25, Try.ntmps25
  go_wp2_with fail
  go_loopw [10] (fun i wr => ∃ k : Nat, k ≤ p ∧ i = .int .i64 k ∧ wr = w) (fun i _ => n - (intOf i).toNat)
  case atStart => exact ⟨0, Nat.zero_le _, rfl, rfl⟩
  case round =>
    obtain ⟨k, hk, rfl, rfl⟩ := hrel
    by_cases hlt : k < p
    · obtain ⟨x, hx⟩ : ∃ x, l[k]? = some x := ⟨_, List.getElem?_eq_getElem (by rw [← HL.out.1]; omega)⟩
      obtain ⟨b, o, rfl, hb, c1⟩ := HL.out.get k x hx
      obtain ⟨b2, o2, rfl, hb2, c2⟩ := HR.out.get k x (by rw [← HD.out k hlt]; exact hx)
      have hkm : k < m := by omega
      have hkn : k < n := by omega
      clear hx
      go_wp2_with fail
      go_roundw
      case rel => exact ⟨k + 1, by omega, by go_num, trivial⟩
      case measure => simp [intOf]; omega
    · obtain rfl : k = p := by omega
      obtain ⟨x, hx⟩ : ∃ x, l[k]? = some x := ⟨_, List.getElem?_eq_getElem (by rw [← HL.out.1]; omega)⟩
      obtain ⟨y, hy⟩ : ∃ y, r[k]? = some y := ⟨_, List.getElem?_eq_getElem (by rw [← HR.out.1]; omega)⟩
      obtain ⟨b, o, rfl, hb, c1⟩ := HL.out.get k x hx
      obtain ⟨b2, o2, rfl, hb2, c2⟩ := HR.out.get k y hy
      have hxy : (x == y) = false := by rw [beq_eq_false_iff_ne]; rintro rfl; exact HNE.out (hx.trans hy.symm)
      have hkm : k < m := by omega
      clear hx hy
      go_wp2_with fail
      exact ⟨rfl, by rw [show ((z + k : Nat) : Int) = (z : Int) + (k : Int) by omega], rfl⟩
end Go.Proofs.Ytfnnfnklhejlmaa
