/- EqBytes, CopyBytes. -/
import Derived.Test.YtfnnfnklhejlmaaE
import Derived.Lib.Bytes
namespace Go.Proofs.Ytfnnfnklhejlmaa
open Go.RowKit

/-- bytes -/
def Byte (l : List Int) : Prop := ∀ x ∈ l, 0 ≤ x ∧ x < 256
theorem strOf_inj {l r : List Int} (hl : Byte l) (hr : Byte r) (h : strOfNums l = strOfNums r) : l = r := by
  have h2 : (l.map fun n => UInt8.ofNat n.toNat) = (r.map fun n => UInt8.ofNat n.toNat) := by
    rw [← strOfNums_data, ← strOfNums_data, h]
  refine List.ext_getElem (by simpa using congrArg List.length h2) fun i h3 h4 => ?_
  have h5 := congrArg (fun z => z[i]?) h2
  simp only [List.getElem?_map, List.getElem?_eq_getElem h3, List.getElem?_eq_getElem h4, Option.map_some, Option.some.injEq] at h5
  have h6 := hl _ (List.getElem_mem h3)
  have h7 := hr _ (List.getElem_mem h4)
  have h8 := congrArg UInt8.toNat h5
  simp at h8
  omega
theorem str_beq {l r : List Int} (hl : Byte l) (hr : Byte r) : ((strOfNums l).toList == (strOfNums r).toList) = decide (l = r) := by
  by_cases h : l = r
  · subst h; simp
  · rw [decide_eq_false h, beq_eq_false_iff_ne]
    intro h'
    refine h (strOf_inj hl hr ?_)
    rw [Lib.strOfNums_toList, Lib.strOfNums_toList] at h'
    have : (strOfNums l).data.toList = (strOfNums r).data.toList := by rw [strOfNums_data, strOfNums_data]; exact h'
    have h2 : (strOfNums l).data = (strOfNums r).data := Array.toList_inj.1 this
    cases hx : strOfNums l
    cases hy : strOfNums r
    rw [hx, hy] at h2
    simp at h2
    rw [h2]
/-- what a slice of bytes is as a text -/
theorem conv_bytes (w : World) (A : Option Addr) (n c : Nat) (l : List Int) (h : RB w A n l) : (convert 22 9 (.slice A n c)).run Try.prog w = .ok (.string (strOfNums l)) w := by
  rcases Nat.eq_zero_or_pos n with h0 | h0
  · subst h0
    obtain rfl : l = [] := List.eq_nil_of_length_eq_zero h.1.symm
    rcases A with _ | ad
    · rw [run_convert_bytes_nil w 22 5 Try.underlying22 Try.underlying5 0 c 9 Try.underlying9]; rfl
    · have hl := run_loadCells_list (P := Try.prog) w ad [] (fun j v hj => by simp at hj)
      rw [run_convert_bytes_string w 22 9 5 _ 0 c Try.underlying22 Try.underlying5 Try.underlying9, run_bytesToString w ad 0 c [] (by simpa using hl)]
      rfl
  · obtain ⟨b, o, rfl, hb, hc⟩ := h.2.2 h0
    refine run_convert_bytes_arg w 22 5 Try.underlying22 Try.underlying5 b o n c l h.1.symm (fun i hi => hc i _ ?_) 9 Try.underlying9
    have : i < l.length := by rw [← h.1]; exact hi
    simp [cellsU, this, List.getD_eq_getElem?_getD]

set_option maxHeartbeats 800000 in
theorem eqbytes_at (E : Bool) (A B : Option Addr) (n c m d : Nat) (l r : List Int) (w : World) (hl : RB w A n l) (hr : RB w B m r) (h1 : Byte l) (h2 : Byte r) (hE : decide (l = r) = E) :
    Calls Try.prog 11 #[.slice A n c, .slice B m d] w fun e w' => e = .returned (.bool E) ∧ w = w' := by
  have q1 := conv_bytes w A n c l hl
  have q2 := conv_bytes w B m d r hr
  have H := hid (And.intro h1 h2)
  have HE := hid hE
  clear hl hr h1 h2 hE
  go_enter Try.func11, Try.ntmps11
  go_wp2
  go_ret
  exact ⟨by rw [← HE.out, ← str_beq H.out.1 H.out.2]; rfl, rfl⟩
end Go.Proofs.Ytfnnfnklhejlmaa
