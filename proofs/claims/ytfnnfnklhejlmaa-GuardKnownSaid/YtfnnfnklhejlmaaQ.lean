/- the reference's Check answers chk; Out, Back of both; Lay of both. -/
import Derived.Test.YtfnnfnklhejlmaaP
namespace Go.Proofs.Ytfnnfnklhejlmaa
open Go.RowKit

theorem chk_short {l : List Int} {out : Bool} (h : l.length < 17 ∨ 1040 < l.length) : chk l out = (0, 2) := by unfold chk; rw [if_pos h]
theorem chk_long {l : List Int} {out : Bool} {k : Nat} (h : l.length = k + 16) (h1 : 1 ≤ k) (h2 : k ≤ 1024) : chk l out = match firstDiff l (wantL out k l) with
      | none => (0, 0)
      | some p => ((p : Int), 180) := by unfold chk; rw [if_neg (by omega), show l.length - 16 = k by omega]; cases firstDiff l (wantL out k l) <;> rfl

theorem rcheck_any (A : Option Addr) (n c : Nat) (out : Bool) (l : List Int) (w : World) (h : RB w A n l) (hc : n ≤ c) :
    Calls Try.prog 15 #[.slice A n c, .bool out] w fun e w' => e = .returned (.tuple #[.int .i64 (chk l out).1, .int .i64 (chk l out).2]) ∧ Below w.heap.size w w' := by
  have hl := h.1
  by_cases hb : n < 17 ∨ 1040 < n
  · rw [chk_short (by omega)]
    exact rcheck_bad A n c out w hb
  · obtain ⟨k, rfl⟩ : ∃ k, n = k + 16 := ⟨n - 16, by omega⟩
    rw [chk_long (out := out) hl.symm (by omega) (by omega)]
    cases hfd : firstDiff l (wantL out k l) with
    | none =>
      have h3 := firstDiff_none hfd
      cases out
      · exact rcheck_in_ok A k c l w h (by omega) (by omega) fun j hj => h3 j (by omega)
      · exact rcheck_out_ok A k c l w h (by omega) (by omega) hc fun j hj => h3 j (by omega)
    | some p =>
      obtain ⟨hp, hne, hd⟩ := firstDiff_some hfd
      cases out
      · exact rcheck_in_bad A k c l w h (by omega) (by omega) p (by omega) hd hne
      · exact rcheck_out_bad A k c l w h (by omega) (by omega) hc p (by omega) hd hne
theorem rcheck_at (i e : Int) (A : Option Addr) (n c : Nat) (out : Bool) (l : List Int) (w : World) (h : RB w A n l) (hc : n ≤ c) (hE : chk l out = (i, e)) :
    Calls Try.prog 15 #[.slice A n c, .bool out] w fun r w' => r = .returned (.tuple #[.int .i64 i, .int .i64 e]) ∧ Below w.heap.size w w' := by
  have := rcheck_any A n c out l w h hc
  rw [hE] at this
  exact this

/-- what stands in a slice that was answered -/
structure Row (w w' : World) (A : Option Addr) (N c : Nat) (l : List Int) : Prop where
  own : IsB w' w.heap.size (.slice A N c) l
  below : Below w.heap.size w w'
theorem row_of {w w' : World} {v : Value} {l : List Int} (hv : IsB w' w.heap.size v l) (hb : Below w.heap.size w w') : ∃ A N c, v = .slice A N c ∧ Row w w' A N c l := by
  obtain ⟨A, N, c, rfl, -⟩ := hv.rb
  exact ⟨A, N, c, rfl, hv, hb⟩
section
variable {w w' : World} {A : Option Addr} {N c : Nat} {l : List Int}
theorem Row.rb (h : Row w w' A N c l) : RB w' A N l := by
  obtain ⟨_, _, _, hv, -, -, -, hr⟩ := h.own.rb
  cases hv; exact hr
theorem Row.le (h : Row w w' A N c l) : N ≤ c := by
  obtain ⟨_, _, _, hv, -, h1, -, -⟩ := h.own.rb
  cases hv; exact h1
theorem Row.max (h : Row w w' A N c l) : c ≤ maxLen := by
  obtain ⟨_, _, _, hv, -, -, h1, -⟩ := h.own.rb
  cases hv; exact h1
theorem Row.len (h : Row w w' A N c l) : N = l.length := h.rb.1
end
theorem row_nil {w w' : World} (hb : Below w.heap.size w w') : Row w w' none 0 0 [] := ⟨IsB.nil _ _, hb⟩
theorem chk_two {l : List Int} {out : Bool} : chk l out = (0, 2) ∨ (∃ k, l.length = k + 16 ∧ 1 ≤ k ∧ k ≤ 1024 ∧ (chk l out = (0, 0) ∨ ∃ p, chk l out = (p, 180))) := by
  by_cases h : l.length < 17 ∨ 1040 < l.length
  · exact .inl (chk_short h)
  · refine .inr ⟨l.length - 16, by omega, by omega, by omega, ?_⟩
    rw [chk_long (k := l.length - 16) (by omega) (by omega) (by omega)]
    cases firstDiff l (wantL out (l.length - 16) l) with
    | none => exact .inl rfl
    | some p => exact .inr ⟨_, rfl⟩

/-- what Out, Back answer -/
def turnE (l : List Int) (out : Bool) : Int := (chk l out).2
def outA (l : List Int) : List Int := if (chk l false).2 = 0 then laidL (l.length - 16) 204 90 else []
def backA (l : List Int) : List Int := if (chk l true).2 = 0 then inL (l.length - 16) else []

set_option maxHeartbeats 800000 in
theorem out_any (A : Option Addr) (n c : Nat) (l : List Int) (w : World) (h : RB w A n l) (hn : n ≤ maxLen) (hc : n ≤ c) :
    Calls Try.prog 16 #[.slice A n c] w fun e w' => ∃ A' N' c', e = .returned (.tuple #[.slice A' N' c', .int .i64 (turnE l false)]) ∧ Row w w' A' N' c' (outA l) := by
  have HH := hid h
  have hl := h.1
  rcases chk_two (l := l) (out := false) with h1 | ⟨k, hk, k1, k2, h1 | ⟨p, h1⟩⟩
  · have hT : turnE l false = 2 := by unfold turnE; rw [h1]
    have hA : outA l = [] := by unfold outA; rw [h1]; rfl
    rw [hT, hA]
    clear h hl hT hA
    go_enter Try.func16, Try.ntmps16
    go_wp2_with fail
    refine (check_at 0 2 A n c false l _ HH.out hn hc h1).mono ?_
    rintro e w1 ⟨rfl, hb⟩
    have HB := hid hb; clear hb
    go_wp2_with fail
    go_ret2
    exact ⟨_, _, _, rfl, row_nil HB.out⟩
  · have hT : turnE l false = 0 := by unfold turnE; rw [h1]
    have hA : outA l = laidL k 204 90 := by unfold outA; rw [h1, show l.length - 16 = k by omega]; rfl
    rw [hT, hA]
    obtain rfl : n = k + 16 := by omega
    clear h hl hT hA hk
    have e1 : ((k + 16 : Nat) : Int) - 16 = (k : Int) := by omega
    go_enter Try.func16, Try.ntmps16
    go_wp2_with fail
    refine (check_at 0 0 A (k + 16) c false l _ HH.out hn hc h1).mono ?_
    rintro e w1 ⟨rfl, hb⟩
    have HB := hid hb; clear hb
    go_wp2_with fail
    refine (laid_any k 204 90 _ (by omega)).mono ?_
    rintro e w2 ⟨v, rfl, hv, hb⟩
    have hb2 := below_trans' HB.out hb
    obtain ⟨A', N', c', rfl, hrow⟩ := row_of (hv.mono HB.out.size) hb2
    clear hv hb hb2
    go_wp2_with fail
    go_ret2
    exact ⟨_, _, _, rfl, hrow⟩
  · have hT : turnE l false = 180 := by unfold turnE; rw [h1]
    have hA : outA l = [] := by unfold outA; rw [h1]; rfl
    rw [hT, hA]
    clear h hl hT hA hk k1 k2
    go_enter Try.func16, Try.ntmps16
    go_wp2_with fail
    refine (check_at p 180 A n c false l _ HH.out hn hc h1).mono ?_
    rintro e w1 ⟨rfl, hb⟩
    have HB := hid hb; clear hb
    go_wp2_with fail
    go_ret2
    exact ⟨_, _, _, rfl, row_nil HB.out⟩

set_option maxHeartbeats 800000 in
theorem rout_any (A : Option Addr) (n c : Nat) (l : List Int) (w : World) (h : RB w A n l) (hc : n ≤ c) :
    Calls Try.prog 17 #[.slice A n c] w fun e w' => ∃ A' N' c', e = .returned (.tuple #[.slice A' N' c', .int .i64 (turnE l false)]) ∧ Row w w' A' N' c' (outA l) := by
  have HH := hid h
  have hl := h.1
  rcases chk_two (l := l) (out := false) with h1 | ⟨k, hk, k1, k2, h1 | ⟨p, h1⟩⟩
  · have hT : turnE l false = 2 := by unfold turnE; rw [h1]
    have hA : outA l = [] := by unfold outA; rw [h1]; rfl
    rw [hT, hA]
    clear h hl hT hA
    go_enter Try.func17, Try.ntmps17
    go_wp2_with fail
    refine (rcheck_at 0 2 A n c false l _ HH.out hc h1).mono ?_
    rintro e w1 ⟨rfl, hb⟩
    have HB := hid hb; clear hb
    go_wp2_with fail
    go_ret2
    exact ⟨_, _, _, rfl, row_nil HB.out⟩
  · have hT : turnE l false = 0 := by unfold turnE; rw [h1]
    have hA : outA l = laidL k 204 90 := by unfold outA; rw [h1, show l.length - 16 = k by omega]; rfl
    rw [hT, hA]
    obtain rfl : n = k + 16 := by omega
    clear h hl hT hA hk
    have e1 : ((k + 16 : Nat) : Int) - 16 = (k : Int) := by omega
    go_enter Try.func17, Try.ntmps17
    go_wp2_with fail
    refine (rcheck_at 0 0 A (k + 16) c false l _ HH.out hc h1).mono ?_
    rintro e w1 ⟨rfl, hb⟩
    have HB := hid hb; clear hb
    go_wp2_with fail
    refine (rlaid_any k 204 90 90 _ k2).mono ?_
    rintro e w2 ⟨v, rfl, hv, hb⟩
    have hb2 := below_trans' HB.out hb
    rw [refL_laid] at hv
    obtain ⟨A', N', c', rfl, hrow⟩ := row_of (hv.mono HB.out.size) hb2
    clear hv hb hb2
    go_wp2_with fail
    go_ret2
    exact ⟨_, _, _, rfl, hrow⟩
  · have hT : turnE l false = 180 := by unfold turnE; rw [h1]
    have hA : outA l = [] := by unfold outA; rw [h1]; rfl
    rw [hT, hA]
    clear h hl hT hA hk k1 k2
    go_enter Try.func17, Try.ntmps17
    go_wp2_with fail
    refine (rcheck_at p 180 A n c false l _ HH.out hc h1).mono ?_
    rintro e w1 ⟨rfl, hb⟩
    have HB := hid hb; clear hb
    go_wp2_with fail
    go_ret2
    exact ⟨_, _, _, rfl, row_nil HB.out⟩

set_option maxHeartbeats 800000 in
theorem back_any (A : Option Addr) (n c : Nat) (l : List Int) (w : World) (h : RB w A n l) (hn : n ≤ maxLen) (hc : n ≤ c) :
    Calls Try.prog 18 #[.slice A n c] w fun e w' => ∃ A' N' c', e = .returned (.tuple #[.slice A' N' c', .int .i64 (turnE l true)]) ∧ Row w w' A' N' c' (backA l) := by
  have HH := hid h
  have hl := h.1
  rcases chk_two (l := l) (out := true) with h1 | ⟨k, hk, k1, k2, h1 | ⟨p, h1⟩⟩
  · have hT : turnE l true = 2 := by unfold turnE; rw [h1]
    have hA : backA l = [] := by unfold backA; rw [h1]; rfl
    rw [hT, hA]
    clear h hl hT hA
    go_enter Try.func18, Try.ntmps18
    go_wp2_with fail
    refine (check_at 0 2 A n c true l _ HH.out hn hc h1).mono ?_
    rintro e w1 ⟨rfl, hb⟩
    have HB := hid hb; clear hb
    go_wp2_with fail
    go_ret2
    exact ⟨_, _, _, rfl, row_nil HB.out⟩
  · have hT : turnE l true = 0 := by unfold turnE; rw [h1]
    have hA : backA l = inL k := by unfold backA; rw [h1, show l.length - 16 = k by omega]; rfl
    rw [hT, hA]
    obtain rfl : n = k + 16 := by omega
    clear h hl hT hA hk
    have e1 : ((k + 16 : Nat) : Int) - 16 = (k : Int) := by omega
    go_enter Try.func18, Try.ntmps18
    go_wp2_with fail
    refine (check_at 0 0 A (k + 16) c true l _ HH.out hn hc h1).mono ?_
    rintro e w1 ⟨rfl, hb⟩
    have HB := hid hb; clear hb
    go_wp2_with fail
    refine (in_any k _ k1 k2).mono ?_
    rintro e w2 ⟨v, rfl, hv, hb⟩
    have hb2 := below_trans' HB.out hb
    obtain ⟨A', N', c', rfl, hrow⟩ := row_of (hv.mono HB.out.size) hb2
    clear hv hb hb2
    go_wp2_with fail
    go_ret2
    exact ⟨_, _, _, rfl, hrow⟩
  · have hT : turnE l true = 180 := by unfold turnE; rw [h1]
    have hA : backA l = [] := by unfold backA; rw [h1]; rfl
    rw [hT, hA]
    clear h hl hT hA hk k1 k2
    go_enter Try.func18, Try.ntmps18
    go_wp2_with fail
    refine (check_at p 180 A n c true l _ HH.out hn hc h1).mono ?_
    rintro e w1 ⟨rfl, hb⟩
    have HB := hid hb; clear hb
    go_wp2_with fail
    go_ret2
    exact ⟨_, _, _, rfl, row_nil HB.out⟩

set_option maxHeartbeats 800000 in
theorem rback_any (A : Option Addr) (n c : Nat) (l : List Int) (w : World) (h : RB w A n l) (hc : n ≤ c) :
    Calls Try.prog 19 #[.slice A n c] w fun e w' => ∃ A' N' c', e = .returned (.tuple #[.slice A' N' c', .int .i64 (turnE l true)]) ∧ Row w w' A' N' c' (backA l) := by
  have HH := hid h
  have hl := h.1
  rcases chk_two (l := l) (out := true) with h1 | ⟨k, hk, k1, k2, h1 | ⟨p, h1⟩⟩
  · have hT : turnE l true = 2 := by unfold turnE; rw [h1]
    have hA : backA l = [] := by unfold backA; rw [h1]; rfl
    rw [hT, hA]
    clear h hl hT hA
    go_enter Try.func19, Try.ntmps19
    go_wp2_with fail
    refine (rcheck_at 0 2 A n c true l _ HH.out hc h1).mono ?_
    rintro e w1 ⟨rfl, hb⟩
    have HB := hid hb; clear hb
    go_wp2_with fail
    go_ret2
    exact ⟨_, _, _, rfl, row_nil HB.out⟩
  · have hT : turnE l true = 0 := by unfold turnE; rw [h1]
    have hA : backA l = inL k := by unfold backA; rw [h1, show l.length - 16 = k by omega]; rfl
    rw [hT, hA]
    obtain rfl : n = k + 16 := by omega
    clear h hl hT hA hk
    have e1 : ((k + 16 : Nat) : Int) - 16 = (k : Int) := by omega
    go_enter Try.func19, Try.ntmps19
    go_wp2_with fail
    refine (rcheck_at 0 0 A (k + 16) c true l _ HH.out hc h1).mono ?_
    rintro e w1 ⟨rfl, hb⟩
    have HB := hid hb; clear hb
    go_wp2_with fail
    refine (rlaid_any k 187 107 165 _ k2).mono ?_
    rintro e w2 ⟨v, rfl, hv, hb⟩
    have hb2 := below_trans' HB.out hb
    rw [refL_in k k1] at hv
    obtain ⟨A', N', c', rfl, hrow⟩ := row_of (hv.mono HB.out.size) hb2
    clear hv hb hb2
    go_wp2_with fail
    go_ret2
    exact ⟨_, _, _, rfl, hrow⟩
  · have hT : turnE l true = 180 := by unfold turnE; rw [h1]
    have hA : backA l = [] := by unfold backA; rw [h1]; rfl
    rw [hT, hA]
    clear h hl hT hA hk k1 k2
    go_enter Try.func19, Try.ntmps19
    go_wp2_with fail
    refine (rcheck_at p 180 A n c true l _ HH.out hc h1).mono ?_
    rintro e w1 ⟨rfl, hb⟩
    have HB := hid hb; clear hb
    go_wp2_with fail
    go_ret2
    exact ⟨_, _, _, rfl, row_nil HB.out⟩

/-- what Lay answers -/
def layE (c : Int) : Int := if 1 ≤ c ∧ c ≤ 1024 then 0 else 2
def layL (c : Int) : List Int := if 1 ≤ c ∧ c ≤ 1024 then inL c.toNat else []
theorem lay_any (c : Int) (w : World) : Calls Try.prog 9 #[.int .i64 c] w fun e w' => ∃ A N C, e = .returned (.tuple #[.slice A N C, .int .i64 (layE c)]) ∧ Row w w' A N C (layL c) := by
  by_cases h : 1 ≤ c ∧ c ≤ 1024
  · obtain ⟨n, rfl⟩ : ∃ n : Nat, c = n := ⟨c.toNat, by omega⟩
    rw [layE, layL, if_pos h, if_pos h]
    refine (lay_ok n w (by omega) (by omega)).mono ?_
    rintro e w1 ⟨A, N, C, rfl, -, HV, -, HB⟩
    exact ⟨A, N, C, rfl, by simpa using HV.out, HB.out⟩
  · rw [layE, layL, if_neg h, if_neg h]
    refine (lay_bad c w (by omega)).mono ?_
    rintro e w1 ⟨rfl, rfl⟩
    exact ⟨_, _, _, rfl, row_nil (Below.refl _ _)⟩
theorem rlay_any (c : Int) (w : World) : Calls Try.prog 10 #[.int .i64 c] w fun e w' => ∃ A N C, e = .returned (.tuple #[.slice A N C, .int .i64 (layE c)]) ∧ Row w w' A N C (layL c) := by
  by_cases h : 1 ≤ c ∧ c ≤ 1024
  · obtain ⟨n, rfl⟩ : ∃ n : Nat, c = n := ⟨c.toNat, by omega⟩
    rw [layE, layL, if_pos h, if_pos h]
    refine (rlay_ok n w (by omega) (by omega)).mono ?_
    rintro e w1 ⟨A, N, C, rfl, -, HV, -, HB⟩
    exact ⟨A, N, C, rfl, by simpa using HV.out, HB.out⟩
  · rw [layE, layL, if_neg h, if_neg h]
    refine (rlay_bad c w (by omega)).mono ?_
    rintro e w1 ⟨rfl, rfl⟩
    exact ⟨_, _, _, rfl, row_nil (Below.refl _ _)⟩

theorem byte_nil : Byte [] := fun x hx => by cases hx
theorem byte_laidL (n : Nat) {a b : Int} (ha : 0 ≤ a ∧ a < 256) (hb : 0 ≤ b ∧ b < 256) : Byte (laidL n a b) := by
  intro x hx
  simp only [laidL, List.mem_append, List.mem_replicate] at hx
  rcases hx with (⟨-, rfl⟩ | ⟨-, rfl⟩) | ⟨-, rfl⟩ <;> assumption
theorem byte_inL (n : Nat) : Byte (inL n) := by
  intro x hx
  rcases List.mem_or_eq_of_mem_set hx with h | rfl
  · exact byte_laidL n (a := 187) (b := 107) (by omega) (by omega) x h
  · omega
theorem byte_layL (c : Int) : Byte (layL c) := by
  unfold layL
  split
  · exact byte_inL _
  · exact byte_nil
theorem byte_outA (l : List Int) : Byte (outA l) := by
  unfold outA
  split
  · exact byte_laidL _ (by omega) (by omega)
  · exact byte_nil
theorem byte_backA (l : List Int) : Byte (backA l) := by
  unfold backA
  split
  · exact byte_inL _
  · exact byte_nil
end Go.Proofs.Ytfnnfnklhejlmaa
