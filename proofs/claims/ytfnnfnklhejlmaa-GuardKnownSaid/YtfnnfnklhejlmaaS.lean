/- Arguments opened; GuardLays, GuardApart as calls. -/
import Derived.Test.YtfnnfnklhejlmaaRows
import Derived.Test.YtfnnfnklhejlmaaR
import Derived.ProofKit
import Derived.OpenShut
import Derived.ShutString
import Derived.ChangeOld
import Derived.ChangeSlices
import Derived.SizedLaws
import Derived.Lib.SmallJoins
namespace Go.Proofs.Ytfnnfnklhejlmaa
open Go.ChangeShapes Go.WideShapes Go.ChangeAt Go.RowKit

theorem own : ownKnob Try.prog.godebug = none := by kernel_rfl
theorem laidOut : laidOutB Try.prog = true := by kernel_rfl
theorem bytes5 : Try.prog.bytesOf 5 = 1 := by kernel_rfl

theorem open_row {H : Type} {enc : TypeId × Value → H} {w : World} {base : Nat} {spare : Nat → Bool} {held : Bool} {fuel : Nat} {A : Option Addr} {n c : Nat} {x : DataW H × List MemPlace}
    (h : DataW.trod enc Try.prog w base spare held fuel 22 [.slice A n c] = some x) : ∃ l, RB w A n l ∧ Byte l ∧ n ≤ c ∧ c ≤ maxLen ∧ (n = 0 ∨ ∃ es sp, x.1 = .slice es sp ∧ es.length = n) := by
  rcases open_ints Try.underlying22 Try.underlying5 (by kernel_rfl) h with ⟨hcs, _⟩ | ⟨a, len, cap, zs, hcs, hb, hl, hm, hlen, hx, hc, hwf⟩
  · simp at hcs
    obtain ⟨rfl, rfl, rfl⟩ := hcs
    exact ⟨[], RB.nil w none, byte_nil, Nat.le_refl _, by simp [maxLen], .inl rfl⟩
  · simp at hcs
    obtain ⟨rfl, rfl, rfl⟩ := hcs
    have hnm : n ≤ zs.length := by rw [hlen]; split <;> omega
    have hlz : (zs.take n).length = n := by rw [List.length_take]; omega
    refine ⟨zs.take n, ⟨hlz.symm, by rw [cellsU, List.length_map, hlz, Nat.mul_one], fun hn => ?_⟩, fun x hx => ?_, hl, hm, .inr ⟨_, _, by rw [hx], by rw [lits, List.length_map, hlz]⟩⟩
    · have hs0 := World.cell?_spot (hc 0 (by omega))
      obtain ⟨b, o, s⟩ := a
      have hs : s = none := by simpa [Addr.add] using hs0
      subst hs
      have hb0 := World.block_lt_of_cell? w _ (hc 0 (by omega))
      refine ⟨b, o, rfl, by simpa [Addr.add] using hb0, fun j u hu => ?_⟩
      have hj : j < n := by
        have := (List.getElem?_eq_some_iff.1 hu).1
        rw [cellsU, List.length_map, hlz] at this
        exact this
      have hadd : (⟨b, o, none⟩ : Addr).add j = ⟨b, o + j, none⟩ := by unfold Addr.add; split <;> simp_all
      have := hc j (by omega)
      rw [hadd] at this
      rw [this, ← hu]
      simp [cellsU, List.getElem?_take_of_lt hj, List.getElem?_eq_getElem (show j < zs.length by omega), List.getD_eq_getElem?_getD]
    · have := bounds_u8 (hwf x (List.mem_of_mem_take hx))
      omega

theorem RB.far {w : World} {A : Option Addr} {n : Nat} {l : List Int} (h : RB w A n l) (p : Addr) (hne : ∀ b o, A = some ⟨b, o, none⟩ → b ≠ p.block) (u : Value) : RB (w.setCell p u) A n l :=
  ⟨h.1, h.2.keep (by simp) fun b o hA _ => Below.heap_setCell w p u b (hne b o hA)⟩
theorem IsB.block {w : World} {base : Nat} {A : Option Addr} {n c : Nat} {l : List Int} (h : IsB w base (.slice A n c) l) : ∀ b o, A = some ⟨b, o, none⟩ → base ≤ b ∧ b < w.heap.size := by
  rintro b o rfl
  rcases h.2 with ⟨h1, -⟩ | ⟨g, cap, cur, hv, hg, hh, -⟩
  · cases h1
  · cases hv
    exact ⟨hg, (Array.getElem?_eq_some_iff.1 hh).1⟩
theorem IsB.len {w : World} {base : Nat} {A : Option Addr} {n c : Nat} {l : List Int} (h : IsB w base (.slice A n c) l) : n = l.length := by
  obtain ⟨_, _, _, hv, h1, -⟩ := h.rb
  cases hv; exact h1

theorem layL_le (d : Int) : (layL d).length ≤ 1040 := by
  unfold layL
  split
  · rw [inL_length]; omega
  · simp

set_option maxHeartbeats 1600000 in
theorem guardLays_any (d : Int) (W : World) : Calls Try.prog 3 #[.int .i64 d] W fun e w' => e = .returned (.bool true) ∧ Below W.heap.size W w' := by
  go_enter Try.func3, Try.ntmps3
  go_wp2_with fail
  refine (lay_any d _).mono ?_
  rintro e w1 ⟨A1, N1, c1, rfl, h1⟩
  go_wp2_with fail
  refine (rlay_any d _).mono ?_
  rintro e w2 ⟨A2, N2, c2, rfl, h2⟩
  have V1 := hid (h1.own.below h2.below)
  have V2 := hid h2.own
  have R1 := hid (h1.rb.below h2.below)
  have R2 := hid h2.rb
  have B2 := hid (below_trans' h1.below h2.below)
  have D1 : Hid (∀ b o b' o', A1 = some ⟨b, o, none⟩ → A2 = some ⟨b', o', none⟩ → b' ≠ b) := hid (fun b o b' o' e1 e2 => by
    have := (h1.own.block b o e1).2
    have := (h2.own.block b' o' e2).1
    omega)
  have hN : N1 ≤ 1040 := by rw [h1.len]; exact layL_le d
  clear h1 h2
  go_wp2_with fail
  refine (eqbytes_at true A1 A2 N1 c1 N2 c2 (layL d) (layL d) _ R1.out R2.out (byte_layL d) (byte_layL d) (by simp)).mono ?_
  rintro e w3 ⟨rfl, rfl⟩
  go_wp2_with fail
  go_loopw [7] (fun i wr => ∃ j : Nat, j ≤ N1 ∧ i = .int .i64 j ∧ Hid (Below W.heap.size W wr) ∧ Hid (RB wr A2 N2 (layL d)) ∧ Hid (∃ l', IsB wr W.heap.size (.slice A1 N1 c1) l')) (fun i _ => N1 - (intOf i).toNat)
  case atStart => exact ⟨0, Nat.zero_le _, rfl, B2, R2, ⟨_, V1.out⟩⟩
  case round =>
    obtain ⟨j, hj, rfl, BB, RR, VV⟩ := hrel
    by_cases hlt : j < N1
    · obtain ⟨l', hV⟩ := VV.out
      have hl' := hV.len
      obtain ⟨g, hv1, hg, hc, hf, hs⟩ := hV.set_ (k := j) (by omega) 1
      injection hv1 with e1 e2 e3
      subst e1
      have HV2 := hid hs
      have HB2 := hid (BB.out.setCell (p := ⟨g, j, none⟩) hg (.int .u8 1))
      have HR2 := hid (RR.out.far ⟨g, j, none⟩ (fun b' o' h => D1.out g 0 b' o' rfl h) (.int .u8 1))
      clear e2 e3 hs hV hl'
      go_wp2_with fail
      go_roundw
      case rel => exact ⟨j + 1, by omega, by go_num, HB2, HR2, ⟨_, HV2.out⟩⟩
      case measure => simp [intOf]; omega
    · obtain rfl : j = N1 := by omega
      clear V1 R1 R2 B2 D1 V2 VV
      go_wp2_with fail
      refine (lay_any d _).mono ?_
      rintro e w5 ⟨A5, N5, c5, rfl, h5⟩
      have R5 := hid h5.rb; have RR' := hid (RR.out.below h5.below); have B5 := hid (below_trans' BB.out h5.below)
      clear h5
      go_wp2_with fail
      refine (eqbytes_at true A5 A2 N5 c5 N2 c2 (layL d) (layL d) _ R5.out RR'.out (byte_layL d) (byte_layL d) (by simp)).mono ?_
      rintro e w6 ⟨rfl, rfl⟩
      go_wp2_with fail
      refine (works_any _).mono ?_
      rintro e w7 ⟨rfl, hb⟩
      have B7 := hid (below_trans' B5.out hb)
      clear hb
      go_wp2_with fail
      go_ret
      exact ⟨rfl, B7.out⟩

/-- what is as it is in is not as it is out -/
theorem chk_apart {l : List Int} {i j : Int} (h1 : chk l false = (i, 0)) (h2 : chk l true = (j, 0)) : False := by
  by_cases h : l.length < 17 ∨ 1040 < l.length
  · rw [chk_short h] at h1
    simp at h1
  · obtain ⟨k, hk, k1, k2⟩ : ∃ k, l.length = k + 16 ∧ 1 ≤ k ∧ k ≤ 1024 := ⟨l.length - 16, by omega, by omega, by omega⟩
    rw [chk_long hk k1 k2] at h1 h2
    cases f1 : firstDiff l (wantL false k l) with
    | some p => rw [f1] at h1; simp at h1
    | none =>
      cases f2 : firstDiff l (wantL true k l) with
      | some p => rw [f2] at h2; simp at h2
      | none =>
        have e1 := firstDiff_none f1 0 (by omega)
        have e2 := firstDiff_none f2 0 (by omega)
        have e3 : (wantL false k l)[0]? = some 187 := by
          show (inL k)[0]? = _
          unfold inL
          rw [List.getElem?_set_ne (by omega), laidL_get _ _ _ _ (by omega), if_pos (by omega)]
        have e4 : (wantL true k l)[0]? = some 204 := by
          show (outL k l)[0]? = _
          rw [outL_get hk _ (by omega), if_pos (by omega)]
        rw [e3] at e1
        rw [e4, e1] at e2
        simp at e2
theorem chk_codes (l : List Int) : (∃ i j e f, chk l false = (i, e) ∧ chk l true = (j, f) ∧ ((e = 2 ∧ f = 2) ∨ (e = 0 ∧ f = 180) ∨ (e = 180 ∧ f = 0) ∨ (e = 180 ∧ f = 180))) := by
  by_cases h : l.length < 17 ∨ 1040 < l.length
  · exact ⟨0, 0, 2, 2, chk_short h, chk_short h, .inl ⟨rfl, rfl⟩⟩
  · rcases chk_two (l := l) (out := false) with h1 | ⟨k, -, -, -, h1 | ⟨p, h1⟩⟩
    · exfalso
      obtain ⟨k, hk, k1, k2⟩ : ∃ k, l.length = k + 16 ∧ 1 ≤ k ∧ k ≤ 1024 := ⟨l.length - 16, by omega, by omega, by omega⟩
      rw [chk_long hk k1 k2] at h1
      cases f1 : firstDiff l (wantL false k l) <;> rw [f1] at h1 <;> simp at h1
    all_goals
      rcases chk_two (l := l) (out := true) with h2 | ⟨k2, -, -, -, h2 | ⟨p2, h2⟩⟩
      · exfalso
        obtain ⟨k, hk, k1, k2⟩ : ∃ k, l.length = k + 16 ∧ 1 ≤ k ∧ k ≤ 1024 := ⟨l.length - 16, by omega, by omega, by omega⟩
        rw [chk_long hk k1 k2] at h2
        cases f1 : firstDiff l (wantL true k l) <;> rw [f1] at h2 <;> simp at h2
      · first
          | exact (chk_apart h1 h2).elim
          | exact ⟨_, _, _, _, h1, h2, .inr (.inr (.inl ⟨rfl, rfl⟩))⟩
      · first
          | exact ⟨_, _, _, _, h1, h2, .inr (.inl ⟨rfl, rfl⟩)⟩
          | exact ⟨_, _, _, _, h1, h2, .inr (.inr (.inr ⟨rfl, rfl⟩))⟩

set_option maxHeartbeats 1600000 in
theorem guardApart_any (A : Option Addr) (n c : Nat) (l : List Int) (W : World) (h : RB W A n l) (hn : n ≤ maxLen) (hc : n ≤ c) : Calls Try.prog 4 #[.slice A n c] W fun e w' => e = .returned (.bool true) ∧ Below W.heap.size W w' := by
  have HH := hid h
  obtain ⟨i, j, e, f, h1, h2, hef⟩ := chk_codes l
  clear h
  rcases hef with ⟨rfl, rfl⟩ | ⟨rfl, rfl⟩ | ⟨rfl, rfl⟩ | ⟨rfl, rfl⟩
  all_goals
    go_enter Try.func4, Try.ntmps4
    go_wp2_with fail
    refine (check_at _ _ A n c false l _ HH.out hn hc h1).mono ?_
    rintro e w1 ⟨rfl, hb⟩
    have H1 := hid (HH.out.below hb); have B1 := hid hb; clear hb
    go_wp2_with fail
    refine (check_at _ _ A n c true l _ H1.out hn hc h2).mono ?_
    rintro e w2 ⟨rfl, hb⟩
    have B2 := hid (below_trans' B1.out hb); clear hb
    go_wp2_with fail
    refine (works_any _).mono ?_
    rintro e w7 ⟨rfl, hb⟩
    have B7 := hid (below_trans' B2.out hb)
    clear hb
    go_wp2_with fail
    go_ret
    exact ⟨rfl, B7.out⟩
end Go.Proofs.Ytfnnfnklhejlmaa
