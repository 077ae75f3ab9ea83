/- THE PURE SIDE: the machine of grace periods: what always holds of it. -/
import Derived.Test.YtkkbgohijokbhaaGrb
namespace Go.Proofs.Ytkkbgohijokbhaa.Gr

structure Ok (s : St) (e : Int) : Prop where
  pos : 1 ≤ s.deep.length
  le8 : s.deep.length ≤ 8
  rlen : s.rows.length = s.deep.length
  nlen : s.needs.length = s.deep.length
  deep : ∀ d ∈ s.deep, 0 ≤ d ∧ d ≤ 8
  rows : ∀ l ∈ s.rows, check l = 0
  ended0 : 0 ≤ s.ended
  ended1 : s.ended ≤ e
  idle : s.going = false → ∀ b ∈ s.needs, b = false

theorem getD_mem {α : Type} (l : List α) (k : Nat) (d : α) (h : k < l.length) : l.getD k d ∈ l := by
  rw [List.getD_eq_getElem?_getD, List.getElem?_eq_getElem h]
  exact List.getElem_mem h
theorem mem_set {α : Type} {l : List α} {k : Nat} {a x : α} (h : x ∈ l.set k a) : x = a ∨ x ∈ l := by
  have := List.mem_or_eq_of_mem_set h
  exact this.symm
theorem getD_set {α : Type} (l : List α) (k j : Nat) (a d : α) (hk : k < l.length) : (l.set k a).getD j d = if k = j then a else l.getD j d := by
  simp only [List.getD_eq_getElem?_getD, List.getElem?_set]
  by_cases h : k = j
  · subst h; simp [hk]
  · simp [h]
theorem Ok.mono {s : St} {e e' : Int} (h : Ok s e) (he : e ≤ e') : Ok s e' := ⟨h.pos, h.le8, h.rlen, h.nlen, h.deep, h.rows, h.ended0, by have := h.ended1; omega, h.idle⟩
theorem Ok.dp {s : St} {e : Int} (h : Ok s e) (k : Nat) (hk : k < s.deep.length) : 0 ≤ s.deep.getD k 0 ∧ s.deep.getD k 0 ≤ 8 := h.deep _ (getD_mem _ _ _ hk)
theorem Ok.row {s : St} {e : Int} (h : Ok s e) (k : Nat) (hk : k < s.deep.length) : check (s.rows.getD k []) = 0 := h.rows _ (getD_mem _ _ _ (by rw [h.rlen]; exact hk))
theorem has_iff {s : St} {c : Int} : s.has c = true ↔ 0 ≤ c ∧ c < (s.deep.length : Int) := by
  unfold St.has
  rw [Bool.and_eq_true, decide_eq_true_iff, decide_eq_true_iff]
  exact Iff.rfl
theorem has_nat {s : St} {k : Nat} (h : k < s.deep.length) : s.has (k : Int) = true := has_iff.2 ⟨by omega, by omega⟩
theorem has_not {s : St} {c : Int} (h : ¬ (0 ≤ c ∧ c < s.deep.length)) : s.has c = false := by
  cases e : s.has c with
  | false => rfl
  | true => exact absurd (has_iff.1 e) h
theorem Ok.begin_ {s : St} {e : Int} (h : Ok s e) : Ok s.begin e := by
  refine ⟨h.pos, h.le8, h.rlen, by simp [St.begin, St.cpus], h.deep, h.rows, h.ended0, h.ended1, fun hg => ?_⟩
  simp [St.begin] at hg
theorem Ok.new_ (n : Nat) (h1 : 1 ≤ n) (h8 : n ≤ 8) : Ok (new n) 0 := by
  refine ⟨by simpa [new] using h1, by simpa [new] using h8, by simp [new], by simp [new], ?_, ?_, by simp [new], by simp [new], ?_⟩
  · intro d hd; simp [new] at hd; omega
  · intro l hl; simp [new] at hl; rw [hl.2]; rfl
  · intro _ b hb; simp [new] at hb; exact hb.2
theorem Ok.lock_ {s : St} {e : Int} (h : Ok s e) (c : Int) : Ok (s.lock c).1 e := by
  unfold St.lock
  split
  · rename_i hc
    split
    · exact h
    · rename_i h8
      have hc := has_iff.1 hc
      have hd : 0 ≤ s.dp c ∧ s.dp c ≤ 8 := h.dp c.toNat (by omega)
      refine ⟨by simpa using h.pos, by simpa using h.le8, by simpa using h.rlen, by simpa using h.nlen, fun d hd' => ?_, h.rows, h.ended0, h.ended1, h.idle⟩
      rcases mem_set hd' with rfl | hm
      · omega
      · exact h.deep d hm
  · exact h
theorem Ok.unlock_ {s : St} {e : Int} (h : Ok s e) (c : Int) : Ok (s.unlock c).1 e := by
  unfold St.unlock
  split
  · rename_i hc
    split
    · exact h
    · rename_i h8
      have hc := has_iff.1 hc
      have hd : 0 ≤ s.dp c ∧ s.dp c ≤ 8 := h.dp c.toNat (by omega)
      refine ⟨by simpa using h.pos, by simpa using h.le8, by simpa using h.rlen, by simpa using h.nlen, fun d hd' => ?_, h.rows, h.ended0, h.ended1, h.idle⟩
      rcases mem_set hd' with rfl | hm
      · omega
      · exact h.deep d hm
  · exact h
theorem add_zero_check {l : List Rec} {x : Rec} (h : (add l x).2 = 0) : check (add l x).1 = 0 := by
  unfold add at h ⊢
  split
  · rename_i h1; rw [if_pos h1] at h; exact absurd h h1
  · rename_i h1; rw [if_neg h1] at h
    split
    · rfl
    · rename_i h2; rw [if_neg h2] at h
      split
      · rfl
      · rename_i h3; rw [if_neg h3] at h; simpa using h3
theorem Ok.call_ {s : St} {e : Int} (h : Ok s e) (c id : Int) : Ok (s.call c id).1 e := by
  unfold St.call
  split
  · split
    · exact h
    · split
      · exact h
      · have ht : Ok (if s.going then s else s.begin) e := by
          split
          · exact h
          · exact h.begin_
        generalize (if s.going then s else s.begin) = t at ht ⊢
        dsimp only
        split
        · rename_i h0
          refine ⟨ht.pos, ht.le8, by simpa using ht.rlen, ht.nlen, ht.deep, fun l hl => ?_, ht.ended0, ht.ended1, ht.idle⟩
          rcases mem_set hl with rfl | hm
          · exact add_zero_check h0
          · exact ht.rows l hm
        · exact ht
  · exact h
theorem Ok.quiet_ {s : St} {e : Int} (h : Ok s e) (c : Int) : Ok (s.quiet c).1 (e + 1) := by
  have h' := h.mono (e' := e + 1) (by omega)
  unfold St.quiet
  split
  · split
    · exact h'
    · split
      · rename_i hg
        dsimp only
        split
        · refine ⟨h'.pos, h'.le8, h'.rlen, by simpa using h'.nlen, h'.deep, h'.rows, h'.ended0, h'.ended1, fun hh => ?_⟩
          simp [hg] at hh
        · rename_i hn
          have hu : Ok { s with needs := s.needs.set c.toNat false, going := false, ended := s.ended + 1 } (e + 1) := by
            refine ⟨h.pos, h.le8, h.rlen, by simpa using h.nlen, h.deep, h.rows, by have := h.ended0; simp only; omega, by have := h.ended1; simp only; omega, fun _ b hb => ?_⟩
            cases b with
            | false => rfl
            | true => exact absurd (List.any_eq_true.2 ⟨true, hb, rfl⟩) hn
          split
          · exact hu.begin_
          · exact hu
      · exact h'
  · exact h'
theorem Ok.poll_ {s : St} {e : Int} (h : Ok s e) (c : Int) : Ok (s.poll c).1 e := by
  unfold St.poll
  split
  · split
    · exact h
    · rename_i hc
      have hc' : check (s.row c) = 0 := by simpa using hc
      refine ⟨h.pos, h.le8, by simpa using h.rlen, h.nlen, h.deep, fun l hl => ?_, h.ended0, h.ended1, h.idle⟩
      rcases mem_set hl with rfl | hm
      · exact check_ready _ _ hc'
      · exact h.rows l hm
  · exact h
end Go.Proofs.Ytkkbgohijokbhaa.Gr
