/- THE PURE SIDE, more: where a valid row is parted. -/
import Derived.Test.YtkkbgohijokbhaaGr
namespace Go.Proofs.Ytkkbgohijokbhaa.Gr

theorem chk_mono (l : List Rec) : ∀ last, chk last l = true → ∀ i j (hi : i < l.length) (hj : j < l.length), i ≤ j → (l[i]).2 ≤ (l[j]).2 := by
  induction l with
  | nil => intro last _ i j hi; simp at hi
  | cons x l ih =>
    intro last h i j hi hj hij
    simp only [chk, Bool.and_eq_true] at h
    cases i with
    | zero =>
      cases j with
      | zero => exact Int.le_refl _
      | succ j =>
        have hj' : j < l.length := by simpa using hj
        have := (chk_mem l x.2 h.2 l[j] (List.getElem_mem _)).1
        simpa using this
    | succ i =>
      cases j with
      | zero => omega
      | succ j =>
        have := ih x.2 h.2 i j (by simpa using hi) (by simpa using hj) (by omega)
        simpa using this

theorem cut_facts (l : List Rec) (d : Int) (h : check l = 0) : ∃ p, p ≤ l.length ∧ readyIds l d = (l.take p).map (·.1) ∧ readyRest l d = l.drop p ∧
    (∀ i (hi : i < l.length), i < p → (l[i]).2 ≤ d) ∧ (∀ i (hi : i < l.length), p ≤ i → d < (l[i]).2) := by
  have hv := (check_zero.1 h).2
  have h1 : ∀ l : List Rec, ∃ p, p ≤ l.length ∧ l.takeWhile (fun x => decide (x.2 ≤ d)) = l.take p ∧ l.dropWhile (fun x => decide (x.2 ≤ d)) = l.drop p ∧
      (∀ i (hi : i < l.length), i < p → (l[i]).2 ≤ d) ∧ (∀ (hp : p < l.length), d < (l[p]).2) := by
    intro l
    induction l with
    | nil => exact ⟨0, by simp, by simp, by simp, fun i hi => by simp at hi, fun hp => by simp at hp⟩
    | cons x l ih =>
      by_cases hx : x.2 ≤ d
      · obtain ⟨p, g1, g2, g3, g4, g5⟩ := ih
        refine ⟨p + 1, by simpa using g1, ?_, ?_, ?_, ?_⟩
        · rw [List.takeWhile_cons, if_pos (by simpa using hx), g2]; rfl
        · rw [List.dropWhile_cons, if_pos (by simpa using hx), g3]; rfl
        · intro i hi hip
          cases i with
          | zero => exact hx
          | succ i => simpa using g4 i (by simpa using hi) (by omega)
        · intro hp
          simpa using g5 (by simpa using hp)
      · refine ⟨0, by simp, ?_, ?_, fun i _ hi => by omega, fun _ => by simp; omega⟩
        · rw [List.takeWhile_cons, if_neg (by simpa using hx)]; rfl
        · rw [List.dropWhile_cons, if_neg (by simpa using hx)]; rfl
  obtain ⟨p, g1, g2, g3, g4, g5⟩ := h1 l
  refine ⟨p, g1, by unfold readyIds; rw [g2], by unfold readyRest; rw [g3], g4, fun i hi hpi => ?_⟩
  have := chk_mono l 1 hv p i (by omega) hi hpi
  have := g5 (by omega)
  omega
theorem check_drop (l : List Rec) (p : Nat) (h : check l = 0) : check (l.drop p) = 0 := by
  rw [check_zero] at h ⊢
  refine ⟨by rw [List.length_drop]; omega, ?_⟩
  have : ∀ (l : List Rec) p, chk 1 l = true → chk 1 (l.drop p) = true := by
    intro l
    induction l with
    | nil => intro p h; simpa using h
    | cons x l ih =>
      intro p h
      cases p with
      | zero => exact h
      | succ p => exact ih p (chk_tail h)
  exact this l p h.2
/-- what is left is asked again: nothing is ready -/
theorem ready_none (l : List Rec) (d : Int) (h : ∀ (hl : 0 < l.length), d < (l[0]).2) : readyIds l d = [] ∧ readyRest l d = l := by
  cases l with
  | nil => exact ⟨rfl, rfl⟩
  | cons x l =>
    have hx : d < x.2 := h (by simp)
    unfold readyIds readyRest
    rw [List.takeWhile_cons, List.dropWhile_cons]
    have : decide (x.2 ≤ d) = false := decide_eq_false (by omega)
    rw [this]
    exact ⟨rfl, rfl⟩
end Go.Proofs.Ytkkbgohijokbhaa.Gr
