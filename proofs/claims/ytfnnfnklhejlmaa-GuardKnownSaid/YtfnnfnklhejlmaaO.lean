/- guard.Check answers chk, of all bytes. -/
import Derived.Test.YtfnnfnklhejlmaaN
namespace Go.Proofs.Ytfnnfnklhejlmaa
open Go.RowKit

/-- the first place where two rows differ -/
def firstDiff (l r : List Int) : Option Nat := (List.range l.length).find? fun j => decide (l[j]? ≠ r[j]?)
theorem firstDiff_some {l r : List Int} {p : Nat} (h : firstDiff l r = some p) : p < l.length ∧ l[p]? ≠ r[p]? ∧ ∀ j, j < p → l[j]? = r[j]? := by
  obtain ⟨h1, h2, h3⟩ := List.find?_range_eq_some.1 h
  refine ⟨by simpa using h2, by simpa using h1, fun j hj => by simpa using h3 j hj⟩
theorem firstDiff_none {l r : List Int} (h : firstDiff l r = none) : ∀ j, j < l.length → l[j]? = r[j]? := by
  intro j hj
  have := List.find?_range_eq_none.1 h j hj
  simpa using this
theorem firstDiff_eq {l r : List Int} (hlen : l.length = r.length) : firstDiff l r = none ↔ l = r := by
  constructor
  · intro h
    refine List.ext_getElem? fun j => ?_
    by_cases hj : j < l.length
    · exact firstDiff_none h j hj
    · rw [List.getElem?_eq_none (by omega), List.getElem?_eq_none (by omega)]
  · rintro rfl
    simp [firstDiff]

/-- a row as it is out, whose own bytes are l's -/
def outL (k : Nat) (l : List Int) : List Int := List.replicate 8 204 ++ (l.drop 8).take k ++ List.replicate 8 204
theorem outL_length {k : Nat} {l : List Int} (h : l.length = k + 16) : (outL k l).length = k + 16 := by simp [outL, h]
theorem outL_get {k : Nat} {l : List Int} (h : l.length = k + 16) (i : Nat) (hi : i < k + 16) : (outL k l)[i]? = if i < 8 ∨ k + 8 ≤ i then some 204 else l[i]? := by
  unfold outL
  by_cases h1 : i < 8
  · rw [List.getElem?_append_left (by simp; omega), List.getElem?_append_left (by simp; omega), List.getElem?_replicate, if_pos h1, if_pos (.inl h1)]
  · by_cases h2 : i < k + 8
    · rw [List.getElem?_append_left (by simp; omega), List.getElem?_append_right (by simp; omega), if_neg (by omega), List.getElem?_take_of_lt (by simp; omega), List.getElem?_drop]
      congr 1
      simp; omega
    · rw [List.getElem?_append_right (by simp; omega), List.getElem?_replicate, if_pos (by simp; omega), if_pos (.inr (by omega))]
/-- what Check holds a row to -/
def wantL (out : Bool) (k : Nat) (l : List Int) : List Int := if out then outL k l else inL k
theorem wantL_length {out : Bool} {k : Nat} {l : List Int} (h : l.length = k + 16) : (wantL out k l).length = k + 16 := by
  cases out
  · exact inL_length k
  · exact outL_length h
/-- what Check answers -/
def chk (l : List Int) (out : Bool) : Int × Int :=
  if l.length < 17 ∨ 1040 < l.length then (0, 2)
  else match firstDiff l (wantL out (l.length - 16) l) with
    | none => (0, 0)
    | some p => ((p : Int), 180)

set_option maxHeartbeats 800000 in
theorem check_any (A : Option Addr) (n c : Nat) (out : Bool) (l : List Int) (w : World) (h : RB w A n l) (hn : n ≤ maxLen) (hc : n ≤ c) :
    Calls Try.prog 13 #[.slice A n c, .bool out] w fun e w' => e = .returned (.tuple #[.int .i64 (chk l out).1, .int .i64 (chk l out).2]) ∧ Below w.heap.size w w' := by
  have hl := h.1
  by_cases hb : n < 17 ∨ 1040 < n
  · have : chk l out = (0, 2) := by unfold chk; rw [if_pos (by omega)]
    rw [this]
    exact check_bad A n c out w hn hb
  · obtain ⟨k, rfl⟩ : ∃ k, n = k + 16 := ⟨n - 16, by omega⟩
    have hk : l.length - 16 = k := by omega
    have hf : chk l out = match firstDiff l (wantL out k l) with
      | none => (0, 0)
      | some p => ((p : Int), 180) := by unfold chk; rw [if_neg (by omega), hk]
    rw [hf]
    cases hfd : firstDiff l (wantL out k l) with
    | none =>
      have he := (firstDiff_eq (by rw [wantL_length hl.symm]; exact hl.symm)).1 hfd
      cases out
      · exact check_in_ok A k c l w h (by omega) (by omega) he
      · refine check_out_ok A k c l w h hc (by omega) (by omega) fun j hj => ?_
        have h3 := firstDiff_none hfd
        refine ⟨?_, ?_⟩
        · rw [h3 j (by omega)]
          show (outL k l)[j]? = _
          rw [outL_get hl.symm j (by omega), if_pos (.inl hj)]
        · rw [h3 (8 + k + j) (by omega)]
          show (outL k l)[8 + k + j]? = _
          rw [outL_get hl.symm _ (by omega), if_pos (.inr (by omega))]
    | some p =>
      obtain ⟨hp, hne, hd⟩ := firstDiff_some hfd
      cases out
      · exact check_in_bad A k c l w h (by omega) (by omega) p (by omega) hd hne
      · have hp2 : p < 8 ∨ 8 + k ≤ p ∧ p < k + 16 := by
          by_cases hp8 : p < 8
          · exact .inl hp8
          · by_cases hpk : 8 + k ≤ p
            · exact .inr ⟨hpk, by omega⟩
            · refine absurd ?_ hne
              show _ = (outL k l)[p]?
              rw [outL_get hl.symm _ (by omega), if_neg (by omega)]
        refine check_out_bad A k c l w h hc (by omega) (by omega) p hp2 (fun j hj hjp => ?_) (fun j hj hjp => ?_) ?_
        · rw [hd j hjp]
          show (outL k l)[j]? = _
          rw [outL_get hl.symm _ (by omega), if_pos (.inl hj)]
        · rw [hd _ hjp]
          show (outL k l)[8 + k + j]? = _
          rw [outL_get hl.symm _ (by omega), if_pos (.inr (by omega))]
        · intro h4
          refine hne ?_
          show _ = (outL k l)[p]?
          rw [outL_get hl.symm _ (by omega), if_pos (by omega), h4]

/-- .. with its answer as literals -/
theorem check_at (i e : Int) (A : Option Addr) (n c : Nat) (out : Bool) (l : List Int) (w : World) (h : RB w A n l) (hn : n ≤ maxLen) (hc : n ≤ c) (hE : chk l out = (i, e)) :
    Calls Try.prog 13 #[.slice A n c, .bool out] w fun r w' => r = .returned (.tuple #[.int .i64 i, .int .i64 e]) ∧ Below w.heap.size w w' := by
  have := check_any A n c out l w h hn hc
  rw [hE] at this
  exact this
end Go.Proofs.Ytfnnfnklhejlmaa
