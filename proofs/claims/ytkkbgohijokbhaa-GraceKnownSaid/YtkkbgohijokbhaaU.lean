/- THE MACHINE IN MEMORY: grace.Grace as one block of 27 cells; frames. -/
import Derived.Test.YtkkbgohijokbhaaT
import Derived.Test.YtkkbgohijokbhaaGrc
namespace Go.Proofs.Ytkkbgohijokbhaa
open Go.RowKit

/-- all blocks but those in S are as they were -/
structure Fr (S : List Nat) (w w' : World) : Prop where
  os : w'.os = w.os
  tape : w'.tape = w.tape
  output : w'.output = w.output
  size : w.heap.size ≤ w'.heap.size
  block : ∀ k, k < w.heap.size → k ∉ S → w'.heap[k]? = w.heap[k]?
section
variable {S : List Nat} {a b c : World}
theorem Fr.refl (S : List Nat) (w : World) : Fr S w w := ⟨rfl, rfl, rfl, Nat.le_refl _, fun _ _ _ => rfl⟩
theorem Fr.trans (h : Fr S a b) (k : Fr S b c) : Fr S a c :=
  ⟨k.os.trans h.os, k.tape.trans h.tape, k.output.trans h.output, Nat.le_trans h.size k.size, fun i hi hn => (k.block i (Nat.lt_of_lt_of_le hi h.size) hn).trans (h.block i hi hn)⟩
theorem Fr.of_below (h : Below a.heap.size a b) (S : List Nat) : Fr S a b := ⟨h.os, h.tape, h.output, h.size, fun i hi _ => h.block i hi⟩
theorem Fr.setCell (h : Fr S a b) {p : Addr} (hp : p.block ∈ S) (u : Value) : Fr S a (b.setCell p u) :=
  h.trans ⟨rfl, rfl, rfl, by simp [World.setCell], fun i _ hn => Below.heap_setCell _ _ _ _ (fun e => hn (e ▸ hp))⟩
theorem Fr.drewN (h : Fr S a b) (n : Nat) : Fr S a (b.drewN n) := ⟨h.os, h.tape, h.output, h.size, h.block⟩
theorem Fr.drew (h : Fr S a b) : Fr S a b.drew := ⟨h.os, h.tape, h.output, h.size, h.block⟩
theorem Fr.below (h : Fr S a b) {B : Nat} (hB : B ≤ a.heap.size) (hS : ∀ k ∈ S, B ≤ k) : Below B a b :=
  ⟨h.os, h.tape, h.output, h.size, fun i hi => h.block i (by omega) (fun hm => by have := hS i hm; omega)⟩
theorem Fr.more {S' : List Nat} (h : Fr S a b) (hS : ∀ k ∈ S, k ∈ S') : Fr S' a b := ⟨h.os, h.tape, h.output, h.size, fun i hi hn => h.block i hi (fun hm => hn (hS i hm))⟩
end

theorem Blk.fr {w w' : World} {g t : Nat} {cs : Array Value} {S : List Nat} (h : Blk w g t cs) (hf : Fr S w w') (hS : ∀ b ∈ S, ∃ t' cs', Blk w b t' cs' ∧ t' ≠ t) : Blk w' g t cs :=
  (hf.block g h.lt (fun hm => by
    obtain ⟨t', cs', hb, hne⟩ := hS g hm
    exact Blk.ne_ hb h hne rfl)).trans h
theorem OwnR.fr {w w' : World} {base n : Nat} {A : Option Addr} {l : List Gr.Rec} {S : List Nat} (h : OwnR w base A n l) (hf : Fr S w w') (hS : ∀ b ∈ S, ∃ t' cs', Blk w b t' cs' ∧ t' ≠ 24) : OwnR w' base A n l :=
  ⟨h.1, fun hn => by
    obtain ⟨g, o, cur, e, hg, hb, hc⟩ := h.2 hn
    exact ⟨g, o, cur, e, hg, hb.fr hf hS, hc⟩⟩

/-- what a processor's cell of 'rows' holds -/
def RowVal (w : World) (v : Value) (l : List Gr.Rec) : Prop := (v = .nilIface ∧ l = []) ∨ ∃ A N c, v = .iface 22 (.slice A N c) ∧ N ≤ c ∧ c ≤ maxLen ∧ OwnR w 0 A N l

/-- the block g is the machine s -/
def GRep (w : World) (g : Nat) (s : Gr.St) : Prop :=
  ∃ cs : Array Value, Blk w g 63 cs ∧ cs.size = 27 ∧ cs[0]? = some (.int .i64 (s.deep.length : Int)) ∧ (∀ j, j < 8 → cs[1 + j]? = some (.int .i64 (s.deep.getD j 0))) ∧
    (∀ j, j < 8 → ∃ v, cs[9 + j]? = some v ∧ RowVal w v (s.rows.getD j [])) ∧ cs[17]? = some (.int .i64 s.ended) ∧ cs[18]? = some (.bool s.going) ∧ (∀ j, j < 8 → cs[19 + j]? = some (.bool (s.needs.getD j false)))

section
variable {w w' : World} {g : Nat} {s : Gr.St}
theorem GRep.lt (h : GRep w g s) : g < w.heap.size := by obtain ⟨cs, hb, _⟩ := h; exact hb.lt
theorem GRep.frozen (h : GRep w g s) (i : Nat) : w.frozen? ⟨g, i, none⟩ = false := by obtain ⟨cs, hb, _⟩ := h; exact hb.frozen i
theorem GRep.cpus (h : GRep w g s) : w.cell? ⟨g, 0, none⟩ = some (.int .i64 (s.deep.length : Int)) := by obtain ⟨cs, hb, _, h0, _⟩ := h; exact (hb.cell _).trans h0
theorem GRep.deepAt (h : GRep w g s) (j : Nat) (hj : j < 8) : w.cell? ⟨g, 1 + j, none⟩ = some (.int .i64 (s.deep.getD j 0)) := by obtain ⟨cs, hb, _, _, h1, _⟩ := h; exact (hb.cell _).trans (h1 j hj)
theorem GRep.rowAt (h : GRep w g s) (j : Nat) (hj : j < 8) : ∃ v, w.cell? ⟨g, 9 + j, none⟩ = some v ∧ RowVal w v (s.rows.getD j []) := by
  obtain ⟨cs, hb, _, _, _, h2, _⟩ := h
  obtain ⟨v, hv, hr⟩ := h2 j hj
  exact ⟨v, (hb.cell _).trans hv, hr⟩
theorem GRep.endedAt (h : GRep w g s) : w.cell? ⟨g, 17, none⟩ = some (.int .i64 s.ended) := by obtain ⟨cs, hb, _, _, _, _, h3, _⟩ := h; exact (hb.cell _).trans h3
theorem GRep.goingAt (h : GRep w g s) : w.cell? ⟨g, 18, none⟩ = some (.bool s.going) := by obtain ⟨cs, hb, _, _, _, _, _, h4, _⟩ := h; exact (hb.cell _).trans h4
theorem GRep.needAt (h : GRep w g s) (j : Nat) (hj : j < 8) : w.cell? ⟨g, 19 + j, none⟩ = some (.bool (s.needs.getD j false)) := by obtain ⟨cs, hb, _, _, _, _, _, _, h5⟩ := h; exact (hb.cell _).trans (h5 j hj)

theorem RowVal.fr {v : Value} {l : List Gr.Rec} {S : List Nat} (h : RowVal w v l) (hf : Fr S w w') (hS : ∀ b ∈ S, ∃ t' cs', Blk w b t' cs' ∧ t' ≠ 24) : RowVal w' v l := by
  rcases h with h | ⟨A, N, c, hv, h1, h2, h3⟩
  · exact .inl h
  · exact .inr ⟨A, N, c, hv, h1, h2, h3.fr hf hS⟩
theorem GRep.fr {S : List Nat} (h : GRep w g s) (hf : Fr S w w') (hS : ∀ b ∈ S, ∃ t' cs', Blk w b t' cs' ∧ t' ≠ 24 ∧ t' ≠ 63) : GRep w' g s := by
  obtain ⟨cs, hb, hz, h0, h1, h2, h3⟩ := h
  refine ⟨cs, hb.fr hf (fun b hm => ?_), hz, h0, h1, fun j hj => ?_, h3⟩
  · obtain ⟨t', cs', a, _, c⟩ := hS b hm; exact ⟨t', cs', a, c⟩
  · obtain ⟨v, hv, hr⟩ := h2 j hj
    exact ⟨v, hv, hr.fr hf (fun b hm => by obtain ⟨t', cs', a, c, _⟩ := hS b hm; exact ⟨t', cs', a, c⟩)⟩
theorem GRep.below (h : GRep w g s) (hb : Below w.heap.size w w') : GRep w' g s := h.fr (Fr.of_below hb []) (fun b hm => by cases hm)
theorem GRep.blk (h : GRep w g s) : ∃ cs, Blk w g 63 cs := by obtain ⟨cs, hb, _⟩ := h; exact ⟨cs, hb⟩

theorem gset (cs : Array Value) (i j : Nat) (v : Value) (hi : i < cs.size) : (cs.setIfInBounds i v)[j]? = if i = j then some v else cs[j]? := by
  rw [Array.getElem?_setIfInBounds]
  by_cases h : i = j
  · subst h; simp [hi]
  · simp [h]
/-- a store into the machine's own block -/
theorem GRep.store (h : GRep w g s) (i : Nat) (u : Value) (hi : i < 27) (s' : Gr.St)
    (h0 : ∀ cs : Array Value, cs.size = 27 → cs[0]? = some (.int .i64 (s.deep.length : Int)) → (cs.setIfInBounds i u)[0]? = some (.int .i64 (s'.deep.length : Int)))
    (h1 : ∀ j, j < 8 → (if i = 1 + j then u else .int .i64 (s.deep.getD j 0)) = .int .i64 (s'.deep.getD j 0))
    (h2 : ∀ j, j < 8 → if i = 9 + j then RowVal w u (s'.rows.getD j []) else s.rows.getD j [] = s'.rows.getD j [])
    (h3 : (if i = 17 then u else .int .i64 s.ended) = .int .i64 s'.ended) (h4 : (if i = 18 then u else .bool s.going) = .bool s'.going)
    (h5 : ∀ j, j < 8 → (if i = 19 + j then u else .bool (s.needs.getD j false)) = .bool (s'.needs.getD j false)) : GRep (w.setCell ⟨g, i, none⟩ u) g s' := by
  obtain ⟨cs, hb, hz, a0, a1, a2, a3, a4, a5⟩ := h
  have hS : ∀ b ∈ [g], ∃ t' cs', Blk w b t' cs' ∧ t' ≠ 24 := fun b hm => by simp at hm; subst hm; exact ⟨63, cs, hb, by decide⟩
  have hf : Fr [g] w (w.setCell ⟨g, i, none⟩ u) := (Fr.refl _ _).setCell (by simp) _
  refine ⟨_, hb.set_ i u, by simpa using hz, h0 cs hz a0, fun j hj => ?_, fun j hj => ?_, ?_, ?_, fun j hj => ?_⟩
  · rw [gset _ _ _ _ (by omega), a1 j hj, ← h1 j hj]; split <;> rfl
  · have h2j := h2 j hj
    obtain ⟨v, hv, hr⟩ := a2 j hj
    rw [gset _ _ _ _ (by omega), hv]
    split
    · rename_i he; rw [if_pos he] at h2j; exact ⟨u, rfl, h2j.fr hf hS⟩
    · rename_i he; rw [if_neg he] at h2j; exact ⟨v, rfl, by rw [← h2j]; exact hr.fr hf hS⟩
  · rw [gset _ _ _ _ (by omega), a3, ← h3]; split <;> rfl
  · rw [gset _ _ _ _ (by omega), a4, ← h4]; split <;> rfl
  · rw [gset _ _ _ _ (by omega), a5 j hj, ← h5 j hj]; split <;> rfl
theorem GRep.setDeep (h : GRep w g s) (k : Nat) (hk : k < s.deep.length) (hk8 : k < 8) (v : Int) : GRep (w.setCell ⟨g, 1 + k, none⟩ (.int .i64 v)) g { s with deep := s.deep.set k v } := by
  refine h.store (1 + k) _ (by omega) _ (fun cs hz h0 => ?_) (fun j _ => ?_) (fun j _ => ?_) ?_ ?_ (fun j _ => ?_)
  · rw [gset _ _ _ _ (by omega), if_neg (by omega), h0]; simp
  · rw [Gr.getD_set _ _ _ _ _ hk]
    by_cases e : k = j
    · rw [if_pos (by omega), if_pos e]
    · rw [if_neg (by omega), if_neg e]
  · rw [if_neg (by omega)]
  · rw [if_neg (by omega)]
  · rw [if_neg (by omega)]
  · rw [if_neg (by omega)]
theorem GRep.setRow (h : GRep w g s) (k : Nat) (hk : k < s.rows.length) (hk8 : k < 8) (v : Value) (l : List Gr.Rec) (hv : RowVal w v l) : GRep (w.setCell ⟨g, 9 + k, none⟩ v) g { s with rows := s.rows.set k l } := by
  refine h.store (9 + k) _ (by omega) _ (fun cs hz h0 => ?_) (fun j _ => ?_) (fun j _ => ?_) ?_ ?_ (fun j _ => ?_)
  · rw [gset _ _ _ _ (by omega), if_neg (by omega), h0]
  · rw [if_neg (by omega)]
  · simp only [Gr.getD_set _ _ _ _ _ hk]
    by_cases e : k = j
    · rw [if_pos (by omega), if_pos e]; exact hv
    · rw [if_neg (by omega), if_neg e]
  · rw [if_neg (by omega)]
  · rw [if_neg (by omega)]
  · rw [if_neg (by omega)]
theorem GRep.setEnded (h : GRep w g s) (v : Int) : GRep (w.setCell ⟨g, 17, none⟩ (.int .i64 v)) g { s with ended := v } := by
  refine h.store 17 _ (by omega) _ (fun cs hz h0 => ?_) (fun j _ => ?_) (fun j _ => ?_) ?_ ?_ (fun j _ => ?_)
  · rw [gset _ _ _ _ (by omega), if_neg (by omega), h0]
  · rw [if_neg (by omega)]
  · rw [if_neg (by omega)]
  · rw [if_pos rfl]
  · rw [if_neg (by omega)]
  · rw [if_neg (by omega)]
theorem GRep.setGoing (h : GRep w g s) (v : Bool) : GRep (w.setCell ⟨g, 18, none⟩ (.bool v)) g { s with going := v } := by
  refine h.store 18 _ (by omega) _ (fun cs hz h0 => ?_) (fun j _ => ?_) (fun j _ => ?_) ?_ ?_ (fun j _ => ?_)
  · rw [gset _ _ _ _ (by omega), if_neg (by omega), h0]
  · rw [if_neg (by omega)]
  · rw [if_neg (by omega)]
  · rw [if_neg (by omega)]
  · rw [if_pos rfl]
  · rw [if_neg (by omega)]
theorem GRep.setNeed (h : GRep w g s) (k : Nat) (hk : k < s.needs.length) (hk8 : k < 8) (v : Bool) : GRep (w.setCell ⟨g, 19 + k, none⟩ (.bool v)) g { s with needs := s.needs.set k v } := by
  refine h.store (19 + k) _ (by omega) _ (fun cs hz h0 => ?_) (fun j _ => ?_) (fun j _ => ?_) ?_ ?_ (fun j _ => ?_)
  · rw [gset _ _ _ _ (by omega), if_neg (by omega), h0]
  · rw [if_neg (by omega)]
  · rw [if_neg (by omega)]
  · rw [if_neg (by omega)]
  · rw [if_neg (by omega)]
  · rw [Gr.getD_set _ _ _ _ _ hk]
    by_cases e : k = j
    · rw [if_pos (by omega), if_pos e]
    · rw [if_neg (by omega), if_neg e]
end
end Go.Proofs.Ytkkbgohijokbhaa
