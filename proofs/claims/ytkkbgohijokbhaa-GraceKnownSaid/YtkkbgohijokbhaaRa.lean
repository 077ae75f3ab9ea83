/- THE REFERENCE's MACHINE IN MEMORY: five cells and three rows; has, Depth, Done, Wanted, Waits. -/
import Derived.Test.YtkkbgohijokbhaaQu
namespace Go.Proofs.Ytkkbgohijokbhaa
open Go.RowKit

def cellsB (l : List Bool) : List Value := l.map .bool
def cellsN (l : List Int) : List Value := l.map (.int .i64)
theorem cellsN_get {l : List Int} {k : Nat} (hk : k < l.length) : (cellsN l).toArray[k]? = some (.int .i64 (l.getD k 0)) := by
  simp [cellsN, hk, List.getD_eq_getElem?_getD]
theorem cellsB_get {l : List Bool} {k : Nat} (hk : k < l.length) : (cellsB l).toArray[k]? = some (.bool (l.getD k false)) := by
  simp [cellsB, hk, List.getD_eq_getElem?_getD]
theorem cellsN_set (l : List Int) (k : Nat) (v : Int) : (cellsN l).toArray.setIfInBounds k (.int .i64 v) = (cellsN (l.set k v)).toArray := by
  simp [cellsN, List.setIfInBounds_toArray, List.map_set]
theorem cellsB_set (l : List Bool) (k : Nat) (v : Bool) : (cellsB l).toArray.setIfInBounds k (.bool v) = (cellsB (l.set k v)).toArray := by
  simp [cellsB, List.setIfInBounds_toArray, List.map_set]

/-- a cell of the reference's rows -/
def RowCell (w : World) (v : Value) (l : List Gr.Rec) : Prop := ∃ A N c, v = .slice A N c ∧ N ≤ c ∧ c ≤ maxLen ∧ OwnR w 0 A N l
theorem RowCell.fr {w w' : World} {v : Value} {l : List Gr.Rec} {S : List Nat} (h : RowCell w v l) (hf : Fr S w w') (hS : ∀ b ∈ S, ∃ t' cs', Blk w b t' cs' ∧ t' ≠ 24) : RowCell w' v l := by
  obtain ⟨A, N, c, hv, h1, h2, h3⟩ := h
  exact ⟨A, N, c, hv, h1, h2, h3.fr hf hS⟩

/-- the blocks m, d, r, q are the reference's machine s -/
structure RRep (w : World) (m d r q : Nat) (s : Gr.St) : Prop where
  main : Blk w m 79 #[.slice (some ⟨d, 0, none⟩) s.deep.length s.deep.length, .slice (some ⟨r, 0, none⟩) s.deep.length s.deep.length, .int .i64 s.ended, .bool s.going, .slice (some ⟨q, 0, none⟩) s.deep.length s.deep.length]
  deeps : Blk w d 3 (cellsN s.deep).toArray
  rws : ∃ cs, Blk w r 22 cs ∧ cs.size = s.deep.length ∧ ∀ j, j < s.deep.length → ∃ v, cs[j]? = some v ∧ RowCell w v (s.rows.getD j [])
  nds : Blk w q 4 (cellsB s.needs).toArray

section
variable {w w' : World} {m d r q : Nat} {s : Gr.St}
theorem RRep.m0 (h : RRep w m d r q s) : w.cell? ⟨m, 0, none⟩ = some (.slice (some ⟨d, 0, none⟩) s.deep.length s.deep.length) := (h.main.cell 0).trans rfl
theorem RRep.m1 (h : RRep w m d r q s) : w.cell? ⟨m, 1, none⟩ = some (.slice (some ⟨r, 0, none⟩) s.deep.length s.deep.length) := (h.main.cell 1).trans rfl
theorem RRep.m2 (h : RRep w m d r q s) : w.cell? ⟨m, 2, none⟩ = some (.int .i64 s.ended) := (h.main.cell 2).trans rfl
theorem RRep.m3 (h : RRep w m d r q s) : w.cell? ⟨m, 3, none⟩ = some (.bool s.going) := (h.main.cell 3).trans rfl
theorem RRep.m4 (h : RRep w m d r q s) : w.cell? ⟨m, 4, none⟩ = some (.slice (some ⟨q, 0, none⟩) s.deep.length s.deep.length) := (h.main.cell 4).trans rfl
theorem RRep.deepAt (h : RRep w m d r q s) {k : Nat} (hk : k < s.deep.length) : w.cell? ⟨d, k, none⟩ = some (.int .i64 (s.deep.getD k 0)) := (h.deeps.cell k).trans (cellsN_get hk)
theorem RRep.needAt (h : RRep w m d r q s) {k : Nat} (hk : k < s.needs.length) : w.cell? ⟨q, k, none⟩ = some (.bool (s.needs.getD k false)) := (h.nds.cell k).trans (cellsB_get hk)
theorem RRep.rowAt (h : RRep w m d r q s) {k : Nat} (hk : k < s.deep.length) : ∃ A N c, w.cell? ⟨r, k, none⟩ = some (.slice A N c) ∧ N ≤ c ∧ c ≤ maxLen ∧ OwnR w 0 A N (s.rows.getD k []) := by
  obtain ⟨cs, hb, hz, hc⟩ := h.rws
  obtain ⟨v, hv, A, N, c, rfl, h1, h2, h3⟩ := hc k hk
  exact ⟨A, N, c, (hb.cell k).trans hv, h1, h2, h3⟩
theorem RRep.fm (h : RRep w m d r q s) (i : Nat) : w.frozen? ⟨m, i, none⟩ = false := h.main.frozen i
theorem RRep.fd (h : RRep w m d r q s) (i : Nat) : w.frozen? ⟨d, i, none⟩ = false := h.deeps.frozen i
theorem RRep.fq (h : RRep w m d r q s) (i : Nat) : w.frozen? ⟨q, i, none⟩ = false := h.nds.frozen i
theorem RRep.fr_ (h : RRep w m d r q s) (i : Nat) : w.frozen? ⟨r, i, none⟩ = false := by obtain ⟨cs, hb, _⟩ := h.rws; exact hb.frozen i

theorem RRep.fr {S : List Nat} (h : RRep w m d r q s) (hf : Fr S w w') (hS : ∀ b ∈ S, ∃ t' cs', Blk w b t' cs' ∧ t' ≠ 24 ∧ t' ≠ 79 ∧ t' ≠ 3 ∧ t' ≠ 22 ∧ t' ≠ 4) : RRep w' m d r q s := by
  obtain ⟨hm, hd, ⟨cs, hb, hz, hc⟩, hq⟩ := h
  refine ⟨hm.fr hf fun b hm => ?_, hd.fr hf fun b hm => ?_, ⟨cs, hb.fr hf fun b hm => ?_, hz, fun j hj => ?_⟩, hq.fr hf fun b hm => ?_⟩
  · obtain ⟨t', cs', a, h1, h2, h3, h4, h5⟩ := hS b hm; exact ⟨t', cs', a, h2⟩
  · obtain ⟨t', cs', a, h1, h2, h3, h4, h5⟩ := hS b hm; exact ⟨t', cs', a, h3⟩
  · obtain ⟨t', cs', a, h1, h2, h3, h4, h5⟩ := hS b hm; exact ⟨t', cs', a, h4⟩
  · obtain ⟨v, hv, hr⟩ := hc j hj
    exact ⟨v, hv, hr.fr hf fun b hm => by obtain ⟨t', cs', a, h1, _⟩ := hS b hm; exact ⟨t', cs', a, h1⟩⟩
  · obtain ⟨t', cs', a, h1, h2, h3, h4, h5⟩ := hS b hm; exact ⟨t', cs', a, h5⟩
theorem RRep.below (h : RRep w m d r q s) (hb : Below w.heap.size w w') : RRep w' m d r q s := h.fr (Fr.of_below hb []) (fun b hm => by cases hm)
/-- the machine's own blocks -/
theorem RRep.types (h : RRep w m d r q s) : ∀ b ∈ [m, d, r, q], ∃ t' cs', Blk w b t' cs' ∧ t' ≠ 24 ∧ t' ≠ 63 := by
  obtain ⟨hm, hd, ⟨cs, hb, _⟩, hq⟩ := h
  intro b hb'
  simp only [List.mem_cons, List.not_mem_nil, or_false] at hb'
  rcases hb' with rfl | rfl | rfl | rfl
  · exact ⟨_, _, hm, by decide, by decide⟩
  · exact ⟨_, _, hd, by decide, by decide⟩
  · exact ⟨_, _, hb, by decide, by decide⟩
  · exact ⟨_, _, hq, by decide, by decide⟩
theorem RRep.types24 (h : RRep w m d r q s) : ∀ b ∈ [m, d, r, q], ∃ t' cs', Blk w b t' cs' ∧ t' ≠ 24 := fun b hb => by
  obtain ⟨t, cs, a, c, _⟩ := h.types b hb
  exact ⟨t, cs, a, c⟩
theorem RowCell.own {v u : Value} {l : List Gr.Rec} {p : Addr} {t : TypeId} {cs : Array Value} (h : RowCell w v l) (hb : Blk w p.block t cs) (ht : t ≠ 24) : RowCell (w.setCell p u) v l :=
  h.fr ((Fr.refl [p.block] w).setCell (by simp) u) fun b hm => by simp at hm; subst hm; exact ⟨t, cs, hb, ht⟩

theorem RRep.setDeep (h : RRep w m d r q s) (k : Nat) (v : Int) : RRep (w.setCell ⟨d, k, none⟩ (.int .i64 v)) m d r q { s with deep := s.deep.set k v } := by
  obtain ⟨hm, hd, ⟨cs, hb, hz, hc⟩, hq⟩ := h
  refine ⟨?_, ?_, ⟨cs, hb.far (Blk.ne_ hb hd (by decide)) _, by simpa using hz, fun j hj => ?_⟩, hq.far (Blk.ne_ hq hd (by decide)) _⟩
  · simpa using hm.far (Blk.ne_ hm hd (by decide)) _
  · have := hd.set_ k (.int .i64 v)
    rw [cellsN_set] at this
    exact this
  · obtain ⟨v', hv, hr⟩ := hc j (by simpa using hj)
    exact ⟨v', hv, hr.own hd (by decide)⟩
theorem RRep.setNeed (h : RRep w m d r q s) (k : Nat) (v : Bool) : RRep (w.setCell ⟨q, k, none⟩ (.bool v)) m d r q { s with needs := s.needs.set k v } := by
  obtain ⟨hm, hd, ⟨cs, hb, hz, hc⟩, hq⟩ := h
  refine ⟨hm.far (Blk.ne_ hm hq (by decide)) _, hd.far (Blk.ne_ hd hq (by decide)) _, ⟨cs, hb.far (Blk.ne_ hb hq (by decide)) _, hz, fun j hj => ?_⟩, ?_⟩
  · obtain ⟨v', hv, hr⟩ := hc j hj
    exact ⟨v', hv, hr.own hq (by decide)⟩
  · have := hq.set_ k (.bool v)
    rw [cellsB_set] at this
    exact this
theorem RRep.setEnded (h : RRep w m d r q s) (v : Int) : RRep (w.setCell ⟨m, 2, none⟩ (.int .i64 v)) m d r q { s with ended := v } := by
  obtain ⟨hm, hd, ⟨cs, hb, hz, hc⟩, hq⟩ := h
  refine ⟨hm.set_ 2 _, hd.far (Blk.ne_ hd hm (by decide)) _, ⟨cs, hb.far (Blk.ne_ hb hm (by decide)) _, hz, fun j hj => ?_⟩, hq.far (Blk.ne_ hq hm (by decide)) _⟩
  obtain ⟨v', hv, hr⟩ := hc j hj
  exact ⟨v', hv, hr.own hm (by decide)⟩
theorem RRep.setGoing (h : RRep w m d r q s) (v : Bool) : RRep (w.setCell ⟨m, 3, none⟩ (.bool v)) m d r q { s with going := v } := by
  obtain ⟨hm, hd, ⟨cs, hb, hz, hc⟩, hq⟩ := h
  refine ⟨hm.set_ 3 _, hd.far (Blk.ne_ hd hm (by decide)) _, ⟨cs, hb.far (Blk.ne_ hb hm (by decide)) _, hz, fun j hj => ?_⟩, hq.far (Blk.ne_ hq hm (by decide)) _⟩
  obtain ⟨v', hv, hr⟩ := hc j hj
  exact ⟨v', hv, hr.own hm (by decide)⟩
theorem RRep.setRow (h : RRep w m d r q s) (k : Nat) (hk : k < s.rows.length) (hk2 : k < s.deep.length) (v : Value) (l : List Gr.Rec) (hv : RowCell w v l) : RRep (w.setCell ⟨r, k, none⟩ v) m d r q { s with rows := s.rows.set k l } := by
  obtain ⟨hm, hd, ⟨cs, hb, hz, hc⟩, hq⟩ := h
  refine ⟨hm.far (Blk.ne_ hm hb (by decide)) _, hd.far (Blk.ne_ hd hb (by decide)) _, ⟨_, hb.set_ k v, by simpa using hz, fun j hj => ?_⟩, hq.far (Blk.ne_ hq hb (by decide)) _⟩
  rw [gset _ _ _ _ (by rw [hz]; exact hk2)]
  simp only [Gr.getD_set _ _ _ _ _ hk]
  by_cases e : k = j
  · rw [if_pos e, if_pos e]; exact ⟨v, rfl, hv.own hb (by decide)⟩
  · rw [if_neg e, if_neg e]
    obtain ⟨v', hv', hr⟩ := hc j hj
    exact ⟨v', hv', hr.own hb (by decide)⟩
end

set_option maxHeartbeats 400000 in
theorem has_yes (m d n k : Nat) (w : World) (h : w.cell? ⟨m, 0, none⟩ = some (.slice (some ⟨d, 0, none⟩) n n)) (hk : k < n) : Calls Try.prog 61 #[.pointer (some ⟨m, 0, none⟩), .int .i64 (k : Int)] w fun e w' => e = .returned (.bool true) ∧ w = w' := by
  have h1 : ¬ ((k : Int) < 0) := by omega
  go_enter Try.func61, Try.ntmps61
  go_wp2
  go_ret
  exact ⟨rfl, rfl⟩
set_option maxHeartbeats 400000 in
theorem has_no (m d n : Nat) (c : Int) (w : World) (h : w.cell? ⟨m, 0, none⟩ = some (.slice (some ⟨d, 0, none⟩) n n)) (hk : ¬ (0 ≤ c ∧ c < n)) : Calls Try.prog 61 #[.pointer (some ⟨m, 0, none⟩), .int .i64 c] w fun e w' => e = .returned (.bool false) ∧ w = w' := by
  by_cases h0 : c < 0
  · clear hk
    go_enter Try.func61, Try.ntmps61
    go_wp2
    go_ret
    exact ⟨rfl, rfl⟩
  · have h1 : ¬ (c < (n : Int)) := by omega
    clear hk
    go_enter Try.func61, Try.ntmps61
    go_wp2
    go_ret
    exact ⟨rfl, rfl⟩
end Go.Proofs.Ytkkbgohijokbhaa
