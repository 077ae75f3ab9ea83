/- THE BOOK IN MEMORY: what GraceWaits notes: one block of 6 cells, three rows of records, 17 cells each. -/
import Derived.Test.YtkkbgohijokbhaaGrd
import Derived.Test.YtkkbgohijokbhaaSf
namespace Go.Proofs.Ytkkbgohijokbhaa
open Go.RowKit
open Gr (Noted)

def recCells (p : Noted) : List Value := .int .i64 p.1.1 :: (p.2.1.map .bool ++ p.2.2.map .bool)
theorem recCells_length {p : Noted} (h1 : p.2.1.length = 8) (h2 : p.2.2.length = 8) : (recCells p).length = 17 := by simp [recCells, h1, h2]
theorem recCells_id (p : Noted) : (recCells p)[0]? = some (.int .i64 p.1.1) := rfl
theorem recCells_in {p : Noted} (h1 : p.2.1.length = 8) {k : Nat} (hk : k < 8) : (recCells p)[1 + k]? = some (.bool (p.2.1.getD k false)) := by
  unfold recCells
  rw [Nat.add_comm, List.getElem?_cons_succ, List.getElem?_append_left (by simpa [h1] using hk)]
  simp [List.getD_eq_getElem?_getD, List.getElem?_eq_getElem (show k < p.2.1.length by omega)]
theorem recCells_si {p : Noted} (h1 : p.2.1.length = 8) (h2 : p.2.2.length = 8) {k : Nat} (hk : k < 8) : (recCells p)[9 + k]? = some (.bool (p.2.2.getD k false)) := by
  unfold recCells
  rw [show 9 + k = (8 + k) + 1 by omega, List.getElem?_cons_succ, List.getElem?_append_right (by simp [h1])]
  simp [h1, List.getD_eq_getElem?_getD, List.getElem?_eq_getElem (show k < p.2.2.length by omega)]
theorem recCells_clrI {p : Noted} (h1 : p.2.1.length = 8) {c : Nat} (hc : c < 8) : recCells (Gr.clrI c p) = (recCells p).set (1 + c) (.bool false) := by
  unfold recCells Gr.clrI
  rw [show 1 + c = c + 1 by omega, List.set_cons_succ, List.set_append_left _ _ (by simpa [h1] using hc)]
  simp [List.map_set]
theorem recCells_clrS {p : Noted} (h1 : p.2.1.length = 8) {c : Nat} : recCells (Gr.clrS c p) = (recCells p).set (9 + c) (.bool false) := by
  unfold recCells Gr.clrS
  rw [show 9 + c = (8 + c) + 1 by omega, List.set_cons_succ, List.set_append_right _ _ (by simp [h1])]
  simp [h1, List.map_set]

/-- the cells from o on are the records l -/
def RowC (cur : Array Value) (o : Nat) (l : List Noted) : Prop := ∀ i p, l[i]? = some p → p.2.1.length = 8 ∧ p.2.2.length = 8 ∧ ∀ j, j < 17 → cur[o + i * 17 + j]? = (recCells p)[j]?
theorem RowC.drop {cur : Array Value} {o : Nat} {l : List Noted} (h : RowC cur o l) (m : Nat) : RowC cur (o + m * 17) (l.drop m) := by
  intro i p hp
  rw [List.getElem?_drop] at hp
  obtain ⟨h1, h2, h3⟩ := h _ _ hp
  refine ⟨h1, h2, fun j hj => ?_⟩
  rw [← h3 j hj]
  congr 1
  rw [Nat.add_mul]; omega
theorem RowC.set {cur : Array Value} {o : Nat} {l : List Noted} (h : RowC cur o l) {m : Nat} {p p' : Noted} (hp : l[m]? = some p) (h1 : p'.2.1.length = 8) (h2 : p'.2.2.length = 8) {j0 : Nat} (hj0 : j0 < 17) {u : Value} (hu : recCells p' = (recCells p).set j0 u) : RowC (cur.setIfInBounds (o + m * 17 + j0) u) o (l.set m p') := by
  have hml : m < l.length := (List.getElem?_eq_some_iff.1 hp).1
  obtain ⟨q1, q2, q3⟩ := h m p hp
  have hsz : o + m * 17 + j0 < cur.size := by
    have := q3 j0 hj0
    rw [List.getElem?_eq_getElem (by rw [recCells_length q1 q2]; exact hj0)] at this
    exact (Array.getElem?_eq_some_iff.1 this).1
  intro i q hq
  by_cases e : m = i
  · subst e
    rw [List.getElem?_set_self hml] at hq
    injection hq with hq
    subst hq
    refine ⟨h1, h2, fun j hj => ?_⟩
    rw [hu, gset _ _ _ _ hsz, List.getElem?_set]
    by_cases e2 : j0 = j
    · subst e2
      rw [if_pos rfl, if_pos rfl, if_pos (by rw [recCells_length q1 q2]; exact hj0)]
    · rw [if_neg (by omega), if_neg e2]
      exact q3 j hj
  · rw [List.getElem?_set_ne e] at hq
    obtain ⟨r1, r2, r3⟩ := h i q hq
    refine ⟨r1, r2, fun j hj => ?_⟩
    rw [gset _ _ _ _ hsz, if_neg (by omega)]
    exact r3 j hj

/-- a row of records that was made since B -/
def RVal (w : World) (B : Nat) (v : Value) (l : List Noted) : Prop := (v = .slice none 0 0 ∧ l = []) ∨
  ∃ g o c cur, v = .slice (some ⟨g, o, none⟩) l.length c ∧ l.length ≤ c ∧ c ≤ maxLen ∧ B ≤ g ∧ Blk w g 86 cur ∧ o + c * 17 ≤ cur.size ∧ RowC cur o l
theorem RVal.slice {w : World} {B : Nat} {v : Value} {l : List Noted} (h : RVal w B v l) : ∃ A c, v = .slice A l.length c ∧ l.length ≤ c ∧ c ≤ maxLen := by
  rcases h with ⟨rfl, rfl⟩ | ⟨g, o, c, cur, rfl, h1, h2, -⟩
  · exact ⟨none, 0, rfl, Nat.le_refl _, Nat.zero_le _⟩
  · exact ⟨_, c, rfl, h1, h2⟩
theorem RVal.at_ {w : World} {B : Nat} {v : Value} {l : List Noted} (h : RVal w B v l) {m : Nat} {p : Noted} (hp : l[m]? = some p) :
    ∃ g o c, v = .slice (some ⟨g, o, none⟩) l.length c ∧ B ≤ g ∧ p.2.1.length = 8 ∧ p.2.2.length = 8 ∧ (∀ j, w.frozen? ⟨g, j, none⟩ = false) ∧ (∀ j u, (recCells p)[j]? = some u → w.cell? ⟨g, o + m * 17 + j, none⟩ = some u) ∧ ∃ cur, Blk w g 86 cur := by
  have hml : m < l.length := (List.getElem?_eq_some_iff.1 hp).1
  rcases h with ⟨rfl, rfl⟩ | ⟨g, o, c, cur, rfl, h1, h2, hB, hb, hs, hr⟩
  · simp at hml
  · obtain ⟨q1, q2, q3⟩ := hr m p hp
    refine ⟨g, o, c, rfl, hB, q1, q2, hb.frozen, fun j u hu => ?_, cur, hb⟩
    have hj : j < 17 := by
      have := (List.getElem?_eq_some_iff.1 hu).1
      rwa [recCells_length q1 q2] at this
    rw [hb.cell, q3 j hj, hu]
theorem RVal.keep {w w' : World} {B : Nat} {v : Value} {l : List Noted} (h : RVal w B v l) (hk : ∀ g, v.ownBlock = some g → (∃ cur, Blk w g 86 cur) → w'.heap[g]? = w.heap[g]?) : RVal w' B v l := by
  rcases h with h | ⟨g, o, c, cur, rfl, h1, h2, hB, hb, hs, hr⟩
  · exact .inl h
  · exact .inr ⟨g, o, c, cur, rfl, h1, h2, hB, (hk g rfl ⟨cur, hb⟩).trans hb, hs, hr⟩
theorem RVal.drop {w : World} {B : Nat} {A : Option Addr} {n c : Nat} {l : List Noted} (h : RVal w B (.slice A n c) l) (hn : 1 ≤ n) :
    RVal w B (.slice (if c = 1 then A else A.map (·.add 17)) (n - 1) (c - 1)) (l.drop 1) := by
  rcases h with ⟨h, -⟩ | ⟨g, o, c', cur, hv, h1, h2, hB, hb, hs, hr⟩
  · injection h; omega
  · injection hv with e1 e2 e3
    subst e1; subst e2; subst e3
    have hl : (l.drop 1).length = l.length - 1 := by simp
    by_cases hc : c = 1
    · rw [if_pos hc]
      refine .inr ⟨g, o, c - 1, cur, by rw [hl], by omega, by omega, hB, hb, by rw [hc]; omega, fun i p hp => ?_⟩
      have := (List.getElem?_eq_some_iff.1 hp).1
      omega
    · rw [if_neg hc]
      refine .inr ⟨g, o + 17, c - 1, cur, by rw [hl]; simp [Addr.add], by omega, by omega, hB, hb, by rw [Nat.sub_mul]; omega, ?_⟩
      have := hr.drop 1
      simpa using this

structure BRep (w : World) (B k : Nat) (d : List Int) (V : Nat → Value) (L : Nat → List Noted) : Prop where
  main : Blk w k 73 #[.int .i64 (d.getD 0 0), .int .i64 (d.getD 1 0), .int .i64 (d.getD 2 0), V 0, V 1, V 2]
  new : B ≤ k
  row : ∀ j, j < 3 → RVal w B (V j) (L j)
  apart : ∀ i j, i < 3 → j < 3 → i ≠ j → ∀ g, (V i).ownBlock = some g → (V j).ownBlock ≠ some g

/-- nothing but blocks of records and of books was turned, of those that are older than B nothing -/
structure Fk (B : Nat) (w w' : World) : Prop where
  os : w'.os = w.os
  tape : w'.tape = w.tape
  output : w'.output = w.output
  size : w.heap.size ≤ w'.heap.size
  block : ∀ i, i < w.heap.size → (i < B ∨ ∃ t cs, Blk w i t cs ∧ t ≠ 86 ∧ t ≠ 73) → w'.heap[i]? = w.heap[i]?

section
variable {a b c w w' : World} {B k g : Nat} {d : List Int} {V : Nat → Value} {L : Nat → List Noted} {s : Gr.St}
theorem Fk.refl (B : Nat) (w : World) : Fk B w w := ⟨rfl, rfl, rfl, Nat.le_refl _, fun _ _ _ => rfl⟩
theorem Fk.trans (h : Fk B a b) (k : Fk B b c) : Fk B a c :=
  ⟨k.os.trans h.os, k.tape.trans h.tape, k.output.trans h.output, Nat.le_trans h.size k.size, fun i hi hc =>
    (k.block i (Nat.lt_of_lt_of_le hi h.size) (hc.imp id fun ⟨t, cs, hb, h1, h2⟩ => ⟨t, cs, (h.block i hi (.inr ⟨t, cs, hb, h1, h2⟩)).trans hb, h1, h2⟩)).trans (h.block i hi hc)⟩
theorem Fk.of_below (h : Below a.heap.size a b) (B : Nat) : Fk B a b := ⟨h.os, h.tape, h.output, h.size, fun i hi _ => h.block i hi⟩
theorem Fk.drewN (h : Fk B a b) (n : Nat) : Fk B a (b.drewN n) := ⟨h.os, h.tape, h.output, h.size, h.block⟩
theorem Fk.drew (h : Fk B a b) : Fk B a b.drew := ⟨h.os, h.tape, h.output, h.size, h.block⟩
theorem Fk.set_ {p : Addr} (hB : B ≤ p.block) (hp : ∃ t cs, Blk w p.block t cs ∧ (t = 86 ∨ t = 73)) (u : Value) : Fk B w (w.setCell p u) := by
  refine ⟨rfl, rfl, rfl, by simp [World.setCell], fun i hi hc => Below.heap_setCell _ _ _ _ ?_⟩
  rintro rfl
  obtain ⟨t, cs, hb, ht⟩ := hp
  rcases hc with hc | ⟨t', cs', hb', h1, h2⟩
  · omega
  · have : t ≠ t' := by rcases ht with rfl | rfl <;> (intro e; first | exact h1 e.symm | exact h2 e.symm)
    exact Blk.ne_ hb hb' this rfl
theorem Fk.below (h : Fk B a b) (hB : B ≤ a.heap.size) : Below B a b := ⟨h.os, h.tape, h.output, h.size, fun i hi => h.block i (by omega) (.inl hi)⟩
theorem Blk.fk {t : TypeId} {cs : Array Value} (h : Blk w g t cs) (hf : Fk B w w') (h1 : t ≠ 86) (h2 : t ≠ 73) : Blk w' g t cs := (hf.block g h.lt (.inr ⟨t, cs, h, h1, h2⟩)).trans h
theorem RowVal.fk {v : Value} {l : List Gr.Rec} (h : RowVal w v l) (hf : Fk B w w') : RowVal w' v l := by
  rcases h with h | ⟨A, N, c, hv, h1, h2, h3⟩
  · exact .inl h
  · exact .inr ⟨A, N, c, hv, h1, h2, h3.1, fun hn => by
      obtain ⟨g, o, cur, e, hg, hb, hc⟩ := h3.2 hn
      exact ⟨g, o, cur, e, hg, hb.fk hf (by decide) (by decide), hc⟩⟩
theorem GRep.fk (h : GRep w g s) (hf : Fk B w w') : GRep w' g s := by
  obtain ⟨cs, hb, hz, h0, h1, h2, h3⟩ := h
  refine ⟨cs, hb.fk hf (by decide) (by decide), hz, h0, h1, fun j hj => ?_, h3⟩
  obtain ⟨v, hv, hr⟩ := h2 j hj
  exact ⟨v, hv, hr.fk hf⟩
theorem Solo.fk {w0 : World} (h : Solo w0 w g s) (hf : Fk w0.heap.size w w') : Solo w0 w' g s := ⟨h.G.fk hf, h.B.trans (hf.below h.B.size), h.new⟩

theorem BRep.fr {S : List Nat} (h : BRep w B k d V L) (hf : Fr S w w') (hS : ∀ b ∈ S, ∃ t' cs', Blk w b t' cs' ∧ t' ≠ 86 ∧ t' ≠ 73) : BRep w' B k d V L :=
  ⟨h.main.fr hf fun b hb => by obtain ⟨t, cs, x, y, z⟩ := hS b hb; exact ⟨t, cs, x, z⟩, h.new,
    fun j hj => (h.row j hj).keep fun g _ ⟨cur, hb⟩ => (hb.fr hf fun b hb' => by obtain ⟨t, cs, x, y, z⟩ := hS b hb'; exact ⟨t, cs, x, y⟩).trans hb.symm, h.apart⟩
theorem BRep.below (h : BRep w B k d V L) (hb : Below w.heap.size w w') : BRep w' B k d V L := h.fr (Fr.of_below hb []) (fun b hm => by cases hm)
theorem BRep.drewN (h : BRep w B k d V L) (n : Nat) : BRep (w.drewN n) B k d V L := ⟨h.main, h.new, h.row, h.apart⟩
theorem BRep.drew (h : BRep w B k d V L) : BRep w.drew B k d V L := ⟨h.main, h.new, h.row, h.apart⟩
theorem BRep.machine (h : BRep w B k d V L) (hG : GRep w g s) (hf : Fr [g] w w') : BRep w' B k d V L := h.fr hf fun b hb => by
  obtain ⟨t, cs, hc, rfl⟩ := hG.types b hb
  exact ⟨63, cs, hc, by decide, by decide⟩
theorem list3 {d : List Int} (hd : d.length = 3) : ∃ x y z, d = [x, y, z] := by
  match d, hd with
  | [x, y, z], _ => exact ⟨x, y, z, rfl⟩
theorem three {j : Nat} (h : j < 3) : j = 0 ∨ j = 1 ∨ j = 2 := by omega
theorem BRep.deepAt (h : BRep w B k d V L) {j : Nat} (hj : j < 3) : w.cell? ⟨k, j, none⟩ = some (.int .i64 (d.getD j 0)) := by
  rw [h.main.cell]
  rcases three hj with rfl | rfl | rfl <;> rfl
theorem BRep.callsAt (h : BRep w B k d V L) {j : Nat} (hj : j < 3) : w.cell? ⟨k, 3 + j, none⟩ = some (V j) := by
  rw [h.main.cell]
  rcases three hj with rfl | rfl | rfl <;> rfl
theorem BRep.frozen (h : BRep w B k d V L) (j : Nat) : w.frozen? ⟨k, j, none⟩ = false := h.main.frozen j
theorem BRep.congr {L' : Nat → List Noted} (h : BRep w B k d V L) (hL : ∀ j, j < 3 → L j = L' j) : BRep w B k d V L' := ⟨h.main, h.new, fun j hj => by rw [← hL j hj]; exact h.row j hj, h.apart⟩
theorem BRep.fk_k (h : BRep w B k d V L) (i : Nat) (u : Value) : Fk B w (w.setCell ⟨k, i, none⟩ u) := Fk.set_ h.new ⟨73, _, h.main, .inr rfl⟩ u

/-- one cell of a record is turned -/
theorem BRep.poke (h : BRep w B k d V L) {i m : Nat} (hi : i < 3) {p p' : Noted} (hp : (L i)[m]? = some p) (h1 : p'.2.1.length = 8) (h2 : p'.2.2.length = 8) {j0 : Nat} (hj0 : j0 < 17) {u : Value} (hu : recCells p' = (recCells p).set j0 u)
    {o n c : Nat} (hv : V i = .slice (some ⟨g, o, none⟩) n c) : BRep (w.setCell ⟨g, o + m * 17 + j0, none⟩ u) B k d V (Gr.upd L i ((L i).set m p')) ∧ Fk B w (w.setCell ⟨g, o + m * 17 + j0, none⟩ u) := by
  have hml : m < (L i).length := (List.getElem?_eq_some_iff.1 hp).1
  rcases h.row i hi with ⟨e, e2⟩ | ⟨g', o', c', cur, e, r1, r2, hB, hb, hs, hr⟩
  · rw [e2] at hml; simp at hml
  · rw [hv] at e
    injection e with e1 e2 e3
    injection e1 with e1
    injection e1 with e1 e4
    subst e1; subst e4; subst e3; subst e2
    refine ⟨⟨h.main.far (Blk.ne_ h.main hb (by decide)) _, h.new, fun j hj => ?_, h.apart⟩, Fk.set_ hB ⟨86, cur, hb, .inl rfl⟩ _⟩
    unfold Gr.upd
    by_cases e : j = i
    · subst e
      rw [if_pos rfl]
      refine .inr ⟨g, o, c, _, by rw [hv, List.length_set], by rw [List.length_set]; exact r1, r2, hB, hb.set_ _ _, by simpa using hs, hr.set hp h1 h2 hj0 hu⟩
    · rw [if_neg e]
      refine (h.row j hj).keep fun g' hg' _ => Below.heap_setCell _ _ _ _ ?_
      rintro rfl
      exact h.apart j i hj hi e _ hg' (by rw [hv]; rfl)
/-- a depth is turned -/
theorem BRep.setDeep (h : BRep w B k d V L) {c : Nat} (hc : c < 3) (hd : d.length = 3) (v : Int) : BRep (w.setCell ⟨k, c, none⟩ (.int .i64 v)) B k (d.set c v) V L := by
  refine ⟨?_, h.new, fun j hj => (h.row j hj).keep fun g' _ ⟨cur, hb⟩ => Below.heap_setCell _ _ _ _ (Blk.ne_ hb h.main (by decide)), h.apart⟩
  have := h.main.set_ c (.int .i64 v)
  obtain ⟨x, y, z, rfl⟩ := list3 hd
  rcases three hc with rfl | rfl | rfl <;> simpa using this
/-- a row is turned -/
theorem BRep.setRow (h : BRep w B k d V L) {c : Nat} (hc : c < 3) (v : Value) (l : List Noted) (hv : RVal w B v l) (ha : ∀ g, v.ownBlock = some g → ∀ j, j < 3 → j ≠ c → (V j).ownBlock ≠ some g) :
    BRep (w.setCell ⟨k, 3 + c, none⟩ v) B k d (fun j => if j = c then v else V j) (Gr.upd L c l) := by
  have hkeep : ∀ {v l}, RVal w B v l → RVal (w.setCell ⟨k, 3 + c, none⟩ v) B v l := fun {v l} h' => h'.keep fun g' _ ⟨cur, hb⟩ => Below.heap_setCell _ _ _ _ (Blk.ne_ hb h.main (by decide))
  refine ⟨?_, h.new, fun j hj => ?_, fun i j hi hj hij g hg => ?_⟩
  · have := h.main.set_ (3 + c) v
    rcases three hc with rfl | rfl | rfl <;> simpa using this
  · unfold Gr.upd
    by_cases e : j = c
    · rw [if_pos e, if_pos e]
      exact hv.keep fun g' _ ⟨cur, hb⟩ => Below.heap_setCell _ _ _ _ (Blk.ne_ hb h.main (by decide))
    · rw [if_neg e, if_neg e]
      exact (h.row j hj).keep fun g' _ ⟨cur, hb⟩ => Below.heap_setCell _ _ _ _ (Blk.ne_ hb h.main (by decide))
  · by_cases e : i = c
    · rw [if_pos e] at hg
      rw [if_neg (by omega)]
      exact ha g hg j hj (by omega)
    · rw [if_neg e] at hg
      by_cases e2 : j = c
      · rw [if_pos e2]
        intro h'
        exact ha g h' i hi e hg
      · rw [if_neg e2]
        exact h.apart i j hi hj hij g hg
end
end Go.Proofs.Ytkkbgohijokbhaa
