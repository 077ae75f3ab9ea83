/- the law GracePlays as a call. -/
import Derived.Test.YtkkbgohijokbhaaSd
namespace Go.Proofs.Ytkkbgohijokbhaa
open Go.RowKit

/-- the slice '.slice A n c' reads as calls, three whole numbers each -/
def Dos (w : World) (A : Option Addr) (n : Nat) : Prop := ∀ k, k < n → ∃ b o x y z, A = some ⟨b, o, none⟩ ∧ b < w.heap.size ∧ w.cell? ⟨b, o + k * 3, none⟩ = some (.int .i64 x) ∧ w.cell? ⟨b, o + k * 3 + 1, none⟩ = some (.int .i64 y) ∧ w.cell? ⟨b, o + k * 3 + 2, none⟩ = some (.int .i64 z)

set_option maxHeartbeats 800000 in
theorem rnew_bad (c : Int) (h : c < 1 ∨ 8 < c) (w : World) : Calls Try.prog 25 #[.int .i64 c] w fun e w' => e = .returned (.tuple #[.pointer none, .int .i64 2]) ∧ w = w' := by
  rcases h with h | h
  · go_enter Try.func25, Try.ntmps25
    go_wp2
    go_ret2
    exact ⟨rfl, rfl⟩
  · have h' : ¬ c < 1 := by omega
    go_enter Try.func25, Try.ntmps25
    go_wp2
    go_ret2
    exact ⟨rfl, rfl⟩

set_option maxHeartbeats 3200000 in
theorem plays_bad (c : Int) (A : Option Addr) (n cp : Nat) (w : World) (hc : c < 1 ∨ 8 < c) : Calls Try.prog 6 #[.int .i64 c, .slice A n cp] w fun e w' => e = .returned (.bool true) ∧ Below w.heap.size w w' := by
  have HC := hid hc
  clear hc
  go_enter Try.func6, Try.ntmps6
  go_wp2_with fail
  refine (new_bad c HC.out w).mono ?_
  rintro e w1 ⟨rfl, rfl⟩
  go_wp2_with fail
  refine (rnew_bad c HC.out w).mono ?_
  rintro e w1 ⟨rfl, rfl⟩
  go_wp2_with fail
  go_loopw [9] (fun i wr => i = .int .i64 0 ∧ wr = w) (fun i _ => (10 - intOf i).toNat)
  case atStart => exact ⟨rfl, rfl⟩
  case round =>
    obtain ⟨rfl, rfl⟩ := hrel
    by_cases hn : 0 < n
    · go_wp2_with fail
      refine (works10 _).mono ?_
      rintro e w1 ⟨rfl, hb⟩
      have HB := hid hb; clear hb
      go_wp2_with fail
      go_ret
      exact ⟨rfl, HB.out⟩
    · go_wp2_with fail
      refine (works10 _).mono ?_
      rintro e w1 ⟨rfl, hb⟩
      have HB := hid hb; clear hb
      go_wp2_with fail
      go_ret
      exact ⟨rfl, HB.out⟩

set_option maxHeartbeats 3200000 in
set_option maxRecDepth 100000 in
theorem plays_good (cpus : Nat) (h1 : 1 ≤ cpus) (h8 : cpus ≤ 8) (A : Option Addr) (n cp : Nat) (w : World) (h : Dos w A n) : Calls Try.prog 6 #[.int .i64 (cpus : Int), .slice A n cp] w fun e w' => e = .returned (.bool true) ∧ Below w.heap.size w w' := by
  have H := hid h
  have HC := hid (And.intro h1 h8)
  clear h
  go_enter Try.func6, Try.ntmps6
  go_wp2_with fail
  refine (new_ok cpus h1 h8 w).mono ?_
  rintro e w1 ⟨g, rfl, hg, hG, hB⟩
  have HG := hid hG; have HB := hid hB; have HN := hid hg
  clear hG hB hg
  go_wp2_with fail
  refine (rnew_ok cpus h1 h8 w1).mono ?_
  rintro e w2 ⟨m, d, r, q, rfl, hnew, hR, hB2⟩
  have HP0 : Hid (Play w w2 g m d r q (Gr.new cpus) (Gr.new cpus)) := hid ⟨HG.out.below hB2, hR, HB.out.trans (hB2.mono HB.out.size), HN.out, Nat.le_trans HB.out.size hnew.1, Nat.le_trans HB.out.size hnew.2.1, Nat.le_trans HB.out.size hnew.2.2.1, Nat.le_trans HB.out.size hnew.2.2.2⟩
  clear hnew hR hB2 h1 h8
  go_wp2_with fail
  go_loopw [9] (fun i wr => ∃ (k : Nat) (s : Gr.St), k ≤ n ∧ k ≤ 300 ∧ i = .int .i64 k ∧ Hid (Play w wr g m d r q s s) ∧ Hid (Gr.Ok s k)) (fun i _ => (n - intOf i).toNat)
  case atStart => exact ⟨0, Gr.new cpus, Nat.zero_le _, Nat.zero_le _, rfl, HP0, hid (Gr.Ok.new_ cpus HC.out.1 HC.out.2)⟩
  case round =>
    obtain ⟨k, s, hk, hk3, rfl, HP, HO⟩ := hrel
    obtain ⟨wo, rfl⟩ : ∃ wo : World, wo = wr := ⟨_, rfl⟩
    by_cases hlt : k < n
    · by_cases hlt3 : k < 300
      · obtain ⟨b, o, x, y, z, rfl, hbo, c1, c2, c3⟩ := H.out k hlt
        have d1 := (HP.out.B.cell (p := ⟨b, o + k * 3, none⟩) hbo).trans c1
        have d2 := (HP.out.B.cell (p := ⟨b, o + k * 3 + 1, none⟩) hbo).trans c2
        have d3 := (HP.out.B.cell (p := ⟨b, o + k * 3 + 2, none⟩) hbo).trans c3
        clear c1 c2 c3
        go_wp2_with fail
        refine (step_any w wo g m d r q s k x y z HP.out HO.out (by omega)).mono ?_
        rintro e w3 ⟨rfl, HP3⟩
        have HP3 := hid HP3
        clear d1 d2 d3
        go_wp2_with fail
        refine (same_play w w3 g m d r q _ _ HP3.out (stepTo_ok HO.out x y z)).mono ?_
        rintro e w4 ⟨rfl, HP4⟩
        have HP4 := hid HP4
        go_wp2_with fail
        go_roundw
        case rel => exact ⟨k + 1, _, by omega, by omega, by go_num, HP4, hid (by have := stepTo_ok HO.out x y z; simpa using this)⟩
        case measure => simp [intOf]; omega
      · go_wp2_with fail
        refine (works10 _).mono ?_
        rintro e w5 ⟨rfl, hb⟩
        have HB5 := hid hb; clear hb
        go_wp2_with fail
        go_ret
        exact ⟨rfl, below_trans' HP.out.B HB5.out⟩
    · go_wp2_with fail
      refine (works10 _).mono ?_
      rintro e w5 ⟨rfl, hb⟩
      have HB5 := hid hb; clear hb
      go_wp2_with fail
      go_ret
      exact ⟨rfl, below_trans' HP.out.B HB5.out⟩

theorem gracePlays_any (c : Int) (A : Option Addr) (n cp : Nat) (w : World) (h : Dos w A n) : Calls Try.prog 6 #[.int .i64 c, .slice A n cp] w fun e w' => e = .returned (.bool true) ∧ Below w.heap.size w w' := by
  by_cases hc : c < 1 ∨ 8 < c
  · exact plays_bad c A n cp w hc
  · obtain ⟨k, rfl⟩ : ∃ k : Nat, c = k := ⟨c.toNat, by omega⟩
    exact plays_good k (by omega) (by omega) A n cp w h
end Go.Proofs.Ytkkbgohijokbhaa
