/- Bring; what Check answers of rows that were turned. -/
import Derived.Test.YtfnnfnklhejlmaaS
import Derived.Laws.BitsAllLaws
namespace Go.Proofs.Ytfnnfnklhejlmaa
open Go.RowKit

theorem bring_eq (x m : Int) (hm : 0 < m) : (0 ≤ x.tmod m → x.tmod m = x % m) ∧ (x.tmod m < 0 → x.tmod m + m = x % m) := by
  have h1 := Int.emod_nonneg x (show m ≠ 0 by omega)
  have h2 := Int.emod_lt_of_pos x hm
  have h3 : (m.natAbs : Int) = m := Int.natAbs_of_nonneg (by omega)
  have h4 := Int.tmod_eq_emod (a := x) (b := m)
  by_cases hc : 0 ≤ x ∨ m ∣ x
  · rw [if_pos hc] at h4
    constructor <;> intro h <;> omega
  · rw [if_neg hc] at h4
    constructor <;> intro h <;> omega
theorem bring_any (x m : Int) (hm : 0 < m) (hm2 : m ≤ 1000000) (w : World) : Calls Try.prog 20 #[.int .i64 x, .int .i64 m] w fun e w' => e = .returned (.int .i64 (x % m)) ∧ w = w' := by
  have h1 : x.tmod m < m := Int.tmod_lt_of_pos _ hm
  have h2 : -m < x.tmod m := Int.lt_tmod_of_pos _ hm
  have h3 : ¬ m = 0 := by omega
  have HE := hid (bring_eq x m hm)
  have hb : (m == 0) = false := by rw [beq_eq_false_iff_ne]; exact h3
  go_enter Try.func20, Try.ntmps20
  go_wp2
  · go_ret
    exact ⟨ret_int (HE.out.2 (by assumption)), rfl⟩
  · go_ret
    exact ⟨ret_int (HE.out.1 (by assumption)), rfl⟩
theorem bring_at (k : Nat) (x m : Int) (hm : 0 < m) (hm2 : m ≤ 1000000) (hk : x % m = (k : Int)) (w : World) : Calls Try.prog 20 #[.int .i64 x, .int .i64 m] w fun e w' => e = .returned (.int .i64 (k : Int)) ∧ w = w' := by
  rw [← hk]; exact bring_any x m hm hm2 w
theorem bring_nat (x m : Int) (hm : 0 < m) : ∃ k : Nat, x % m = (k : Int) ∧ (k : Int) < m :=
  ⟨(x % m).toNat, by have := Int.emod_nonneg x (show m ≠ 0 by omega); omega, by have := Int.emod_nonneg x (show m ≠ 0 by omega); have := Int.emod_lt_of_pos x hm; omega⟩

theorem firstDiff_at {l r : List Int} {p : Nat} (hp : p < l.length) (hne : l[p]? ≠ r[p]?) (hd : ∀ j, j < p → l[j]? = r[j]?) : firstDiff l r = some p :=
  List.find?_range_eq_some.2 ⟨by simpa using hne, by simpa using hp, fun j hj => by simpa using hd j hj⟩
theorem chk_at_diff {l : List Int} {k p : Nat} {out : Bool} (hl : l.length = k + 16) (h1 : 1 ≤ k) (h2 : k ≤ 1024) (hp : p < k + 16) (hne : l[p]? ≠ (wantL out k l)[p]?) (hd : ∀ j, j < p → l[j]? = (wantL out k l)[j]?) : chk l out = ((p : Int), 180) := by
  rw [chk_long hl h1 h2, firstDiff_at (by omega) hne hd]
theorem chk_same {l : List Int} {k : Nat} {out : Bool} (hl : l.length = k + 16) (h1 : 1 ≤ k) (h2 : k ≤ 1024) (h : ∀ j, j < k + 16 → l[j]? = (wantL out k l)[j]?) : chk l out = (0, 0) := by
  have : firstDiff l (wantL out k l) = none := List.find?_range_eq_none.2 fun j hj => by simpa using h j (by omega)
  rw [chk_long hl h1 h2, this]
theorem chk_in {k : Nat} (h1 : 1 ≤ k) (h2 : k ≤ 1024) : chk (inL k) false = (0, 0) := chk_same (inL_length k) h1 h2 fun _ _ => rfl
theorem chk_in_set {k p : Nat} {x : Int} (h1 : 1 ≤ k) (h2 : k ≤ 1024) (hp : p < k + 16) (hx : x ≠ (inL k).getD p 0) : chk ((inL k).set p x) false = ((p : Int), 180) := by
  refine chk_at_diff (k := k) (by rw [List.length_set, inL_length]) h1 h2 hp ?_ fun j hj => ?_
  · show _ ≠ (inL k)[p]?
    rw [List.getElem?_set_self (by rw [inL_length]; exact hp)]
    rw [List.getD_eq_getElem?_getD] at hx
    intro h
    rw [← h] at hx
    exact hx rfl
  · show _ = (inL k)[j]?
    rw [List.getElem?_set_ne (by omega)]
/-- what stands around an object that is out -/
def OutOk (k : Nat) (O : List Int) : Prop := O.length = k + 16 ∧ ∀ j, j < k + 16 → (j < 8 ∨ k + 8 ≤ j) → O[j]? = some 204
theorem outOk_laid (k : Nat) : OutOk k (laidL k 204 90) := ⟨laidL_length _ _ _, fun j hj h => by rw [laidL_get _ _ _ _ hj]; rw [if_pos h]⟩
theorem OutOk.set {k : Nat} {O : List Int} (h : OutOk k O) (p : Nat) (x : Int) (h1 : 8 ≤ p) (h2 : p < k + 8) : OutOk k (O.set p x) :=
  ⟨by rw [List.length_set]; exact h.1, fun j hj hj2 => by rw [List.getElem?_set_ne (by omega)]; exact h.2 j hj hj2⟩
theorem OutOk.chk {k : Nat} {O : List Int} (h : OutOk k O) (h1 : 1 ≤ k) (h2 : k ≤ 1024) : chk O true = (0, 0) := by
  refine chk_same h.1 h1 h2 fun j hj => ?_
  show _ = (outL k O)[j]?
  rw [outL_get h.1 j hj]
  split
  · rename_i hc; exact h.2 j hj hc
  · rfl
theorem OutOk.chk_set {k p : Nat} {O : List Int} {x : Int} (h : OutOk k O) (h1 : 1 ≤ k) (h2 : k ≤ 1024) (hp : p < k + 16) (hp2 : p < 8 ∨ k + 8 ≤ p) (hx : x ≠ 204) : Ytfnnfnklhejlmaa.chk (O.set p x) true = ((p : Int), 180) := by
  have hl : (O.set p x).length = k + 16 := by rw [List.length_set]; exact h.1
  refine chk_at_diff (k := k) hl h1 h2 hp ?_ fun j hj => ?_
  · show _ ≠ (outL k _)[p]?
    rw [outL_get hl p hp, if_pos hp2, List.getElem?_set_self (by rw [h.1]; exact hp)]
    simpa using hx
  · show _ = (outL k _)[j]?
    rw [outL_get hl j (by omega)]
    split
    · rename_i hc
      rw [List.getElem?_set_ne (by omega)]; exact h.2 j (by omega) hc
    · rfl
theorem turnE_in {k : Nat} (h1 : 1 ≤ k) (h2 : k ≤ 1024) : turnE (inL k) false = 0 := by unfold turnE; rw [chk_in h1 h2]
theorem outA_in {k : Nat} (h1 : 1 ≤ k) (h2 : k ≤ 1024) : outA (inL k) = laidL k 204 90 := by
  unfold outA
  rw [chk_in h1 h2, inL_length, show k + 16 - 16 = k by omega]; rfl
theorem turnE_out {k : Nat} {O : List Int} (h : OutOk k O) (h1 : 1 ≤ k) (h2 : k ≤ 1024) : turnE O true = 0 := by unfold turnE; rw [h.chk h1 h2]
theorem backA_out {k : Nat} {O : List Int} (h : OutOk k O) (h1 : 1 ≤ k) (h2 : k ≤ 1024) : backA O = inL k := by
  unfold backA
  rw [h.chk h1 h2, h.1, show k + 16 - 16 = k by omega]; rfl
/-- Out, Back, with the answer as a literal -/
theorem out_at (E : Int) (R : List Int) (A : Option Addr) (n c : Nat) (l : List Int) (w : World) (h : RB w A n l) (hn : n ≤ maxLen) (hc : n ≤ c) (hE : turnE l false = E) (hR : outA l = R) :
    Calls Try.prog 16 #[.slice A n c] w fun e w' => ∃ A' N' c', e = .returned (.tuple #[.slice A' N' c', .int .i64 E]) ∧ Row w w' A' N' c' R := by
  rw [← hE, ← hR]; exact out_any A n c l w h hn hc
theorem back_at (E : Int) (R : List Int) (A : Option Addr) (n c : Nat) (l : List Int) (w : World) (h : RB w A n l) (hn : n ≤ maxLen) (hc : n ≤ c) (hE : turnE l true = E) (hR : backA l = R) :
    Calls Try.prog 18 #[.slice A n c] w fun e w' => ∃ A' N' c', e = .returned (.tuple #[.slice A' N' c', .int .i64 E]) ∧ Row w w' A' N' c' R := by
  rw [← hE, ← hR]; exact back_any A n c l w h hn hc

theorem xor_ne {x t : Int} (h1 : 0 ≤ x) (h2 : x < 256) (h3 : 1 ≤ t) (h4 : t < 256) : bits .xor .u8 x t ≠ x := by
  rw [u8_xor x t h1 h2 (by omega) h4]
  intro h
  have h5 : x.toNat ^^^ t.toNat = x.toNat := by omega
  have h6 : (x.toNat ^^^ x.toNat) ^^^ t.toNat = x.toNat ^^^ x.toNat := by rw [Nat.xor_assoc, h5]
  rw [Nat.xor_self, Nat.zero_xor] at h6
  omega

/-- a store into a row of one's own -/
theorem IsB.poke {w : World} {base : Nat} {A : Option Addr} {n c : Nat} {l : List Int} (h : IsB w base (.slice A n c) l) {k : Nat} (hk : k < n) (x : Int) :
    ∃ g, A = some ⟨g, 0, none⟩ ∧ base ≤ g ∧ w.cell? ⟨g, k, none⟩ = some (.int .u8 (l.getD k 0)) ∧ w.frozen? ⟨g, k, none⟩ = false ∧ IsB (w.setCell ⟨g, k, none⟩ (.int .u8 x)) base (.slice A n c) (l.set k x) := by
  have hl := h.len
  obtain ⟨g, hv1, hg, hc, hf, hs⟩ := h.set_ (k := k) (by omega) x
  injection hv1 with e1 e2 e3
  exact ⟨g, e1, hg, hc, hf, hs⟩
theorem IsB.far {w : World} {base : Nat} {A : Option Addr} {n c : Nat} {l : List Int} (h : IsB w base (.slice A n c) l) (p : Addr) (hne : ∀ b o, A = some ⟨b, o, none⟩ → b ≠ p.block) (u : Value) : IsB (w.setCell p u) base (.slice A n c) l := by
  refine ⟨h.1, h.2.imp id fun ⟨g, cap, cur, hv, hg, hh, r⟩ => ?_⟩
  cases hv
  exact ⟨g, _, cur, rfl, hg, (Below.heap_setCell w p u g (hne g 0 rfl)).trans hh, r⟩
end Go.Proofs.Ytfnnfnklhejlmaa
