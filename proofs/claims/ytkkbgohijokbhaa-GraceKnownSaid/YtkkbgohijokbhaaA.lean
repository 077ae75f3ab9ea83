/- WORDS FOR MEMORY: a slice that reads as a list of records (two cells each), of whole numbers; blocks that are known whole. -/
import Derived.Test.YtkkbgohijokbhaaProg
import Derived.Test.YtkkbgohijokbhaaGr
import Derived.WalkKit
import Derived.WalkSpells
import Derived.WalkLawsBesides
import Derived.Deep.Draws
import Derived.Deep.AppendLies
import Derived.Deep.QuietTactic
import Derived.BigQuiet
import Derived.Deep.DeepCutAuto
namespace Go.Proofs.Ytkkbgohijokbhaa
open Go.RowKit

theorem hid {p : Prop} (h : p) : Hid p := h

/-- the slice '.slice A n c' reads, from its head, as the cells xs, 'size' a piece -/
def Reads (w : World) (size : Nat) (A : Option Addr) (n : Nat) (xs : List Value) : Prop :=
  xs.length = n * size ∧ (0 < n → ∃ b o, A = some ⟨b, o, none⟩ ∧ b < w.heap.size ∧ ∀ j u, xs[j]? = some u → w.cell? ⟨b, o + j, none⟩ = some u)

section
variable {w w' : World} {size n : Nat} {A : Option Addr} {xs : List Value}
theorem Reads.nil (w : World) (size : Nat) (A : Option Addr) : Reads w size A 0 [] := ⟨by simp, fun h => absurd h (by omega)⟩
theorem Reads.keep (h : Reads w size A n xs) (hs : w.heap.size ≤ w'.heap.size) (hk : ∀ b o, A = some ⟨b, o, none⟩ → b < w.heap.size → w'.heap[b]? = w.heap[b]?) : Reads w' size A n xs :=
  ⟨h.1, fun hn => by
    obtain ⟨b, o, e, hb, hc⟩ := h.2 hn
    exact ⟨b, o, e, by omega, fun j u hu => (World.cell?_of_block (w := w) (a := ⟨b, o + j, none⟩) (hk b o e hb)).trans (hc j u hu)⟩⟩
theorem Reads.below (h : Reads w size A n xs) (hb : Below w.heap.size w w') : Reads w' size A n xs := h.keep hb.size fun b _ _ hlt => hb.block b hlt
theorem Reads.drewN (h : Reads w size A n xs) (k : Nat) : Reads (w.drewN k) size A n xs := h
theorem Reads.drew (h : Reads w size A n xs) : Reads w.drew size A n xs := h
theorem Reads.alloc (h : Reads w size A n xs) (o : Obj) : Reads (w.alloc o) size A n xs := h.keep (by simp) fun b _ _ hlt => Below.heap_alloc w o b hlt
theorem Reads.drop_ (h : Reads w size A n xs) (k : Nat) (hk : k ≤ n) : Reads w size (if n = k then A else A.map (·.add (k * size))) (n - k) (xs.drop (k * size)) := by
  refine ⟨by rw [List.length_drop, h.1, Nat.sub_mul], fun hn => ?_⟩
  obtain ⟨b, o, rfl, hb, hc⟩ := h.2 (by omega)
  rw [if_neg (by omega)]
  by_cases h0 : k * size = 0
  · refine ⟨b, o, by simp [h0, Addr.add], hb, fun j u hu => ?_⟩
    have := hc j u (by rw [← hu, List.getElem?_drop, h0]; simp)
    exact this
  · refine ⟨b, o + k * size, by simp [h0, Addr.add], hb, fun j u hu => ?_⟩
    rw [Nat.add_assoc]
    exact hc _ u (by rw [← hu, List.getElem?_drop])
theorem Reads.take_ (h : Reads w size A n xs) (k : Nat) (hk : k ≤ n) : Reads w size A k (xs.take (k * size)) := by
  refine ⟨by rw [List.length_take, h.1]; exact Nat.min_eq_left (Nat.mul_le_mul_right _ hk), fun hn => ?_⟩
  obtain ⟨b, o, rfl, hb, hc⟩ := h.2 (by omega)
  refine ⟨b, o, rfl, hb, fun j u hu => hc j u ?_⟩
  rw [List.getElem?_take] at hu
  split at hu
  · exact hu
  · cases hu
theorem Reads.of_own {base : Nat} {e : TypeId} {c : Nat} (h : w.ownsRow base e size (.slice A n c) n xs) : Reads w size A n xs := by
  refine ⟨h.1, fun hn => ?_⟩
  rcases h.2 with ⟨_, h0⟩ | ⟨g, cap, cur, hv, _, hg, _, _, hcs, htake⟩
  · omega
  · have hA : A = some ⟨g, 0, none⟩ := by injection hv
    subst hA
    refine ⟨g, 0, rfl, (Array.getElem?_eq_some_iff.1 hg).1, fun j u hu => ?_⟩
    rw [Nat.zero_add, cell_of_row w g j cur e (0, 0) hg]
    rw [← htake, List.getElem?_take] at hu
    split at hu
    · simpa using hu
    · cases hu
end

/-- a block that is known whole -/
def Blk (w : World) (g : Nat) (t : TypeId) (cs : Array Value) : Prop := w.heap[g]? = some (.cells cs t (0, 0))
section
variable {w w' : World} {g : Nat} {t : TypeId} {cs : Array Value}
theorem Blk.lt (h : Blk w g t cs) : g < w.heap.size := (Array.getElem?_eq_some_iff.1 h).1
theorem Blk.cell (h : Blk w g t cs) (i : Nat) : w.cell? ⟨g, i, none⟩ = cs[i]? := cell_of_row w g i cs t (0, 0) h
theorem Blk.frozen (h : Blk w g t cs) (i : Nat) : w.frozen? ⟨g, i, none⟩ = false := by
  unfold Blk at h
  simp [World.frozen?, h]
theorem Blk.new (w : World) (t : TypeId) (cs : Array Value) : Blk (w.alloc (.cells cs t)) w.heap.size t cs := heap_alloc_new w _
theorem Blk.drewN (h : Blk w g t cs) (n : Nat) : Blk (w.drewN n) g t cs := h
theorem Blk.alloc (h : Blk w g t cs) (o : Obj) : Blk (w.alloc o) g t cs := (Below.heap_alloc w o g h.lt).trans h
theorem Blk.set_ (h : Blk w g t cs) (i : Nat) (u : Value) : Blk (w.setCell ⟨g, i, none⟩ u) g t (cs.setIfInBounds i u) := by
  unfold Blk at h ⊢
  simp [World.setCell, Array.getElem?_modify, h]
theorem Blk.far (h : Blk w g t cs) {p : Addr} (hp : g ≠ p.block) (u : Value) : Blk (w.setCell p u) g t cs := (Below.heap_setCell w p u g hp).trans h
theorem Blk.below {B : Nat} (h : Blk w g t cs) (hb : Below B w w') (hg : g < B) : Blk w' g t cs := (hb.block g hg).trans h
theorem Blk.grown {row : Option Nat} (h : Blk w g t cs) (hb : w.grownBy w' row) (hg : some g ≠ row) : Blk w' g t cs := (hb.block g h.lt hg).trans h
theorem Blk.ne_ {g' : Nat} {t' : TypeId} {cs' : Array Value} (h : Blk w g t cs) (h' : Blk w g' t' cs') (hne : t ≠ t') : g ≠ g' := by
  rintro rfl
  unfold Blk at h h'
  rw [h] at h'
  injection h' with h'
  injection h' with _ ht
  exact hne ht
end

theorem below_drewN {B : Nat} {a w : World} (h : Below B a w) (n : Nat) : Below B a (w.drewN n) := ⟨h.os, h.tape, h.output, h.size, h.block⟩
theorem below_trans' {w w1 w2 : World} (h : Below w.heap.size w w1) (k : Below w1.heap.size w1 w2) : Below w.heap.size w w2 := h.trans (k.mono h.size)

/-- the cells of records -/
def cellsR (l : List Gr.Rec) : List Value := l.flatMap fun x => [.int .i64 x.1, .int .i64 x.2]
theorem cellsR_length (l : List Gr.Rec) : (cellsR l).length = l.length * 2 := by
  induction l with
  | nil => rfl
  | cons x l ih => simp only [cellsR, List.flatMap_cons, List.length_append, List.length_cons, List.length_nil] at ih ⊢; omega
theorem cellsR_cons (x : Gr.Rec) (l : List Gr.Rec) : cellsR (x :: l) = .int .i64 x.1 :: .int .i64 x.2 :: cellsR l := rfl
theorem cellsR_append (l r : List Gr.Rec) : cellsR (l ++ r) = cellsR l ++ cellsR r := by simp [cellsR]
theorem cellsR_at (l : List Gr.Rec) : ∀ (k : Nat) (h : k < l.length), (cellsR l)[k * 2]? = some (.int .i64 (l[k]).1) ∧ (cellsR l)[k * 2 + 1]? = some (.int .i64 (l[k]).2) := by
  induction l with
  | nil => intro k h; simp at h
  | cons x l ih =>
    intro k h
    cases k with
    | zero => simp [cellsR_cons]
    | succ k =>
      have := ih k (by simpa using h)
      rw [cellsR_cons]
      simp only [Nat.add_mul, Nat.one_mul, List.getElem_cons_succ]
      rw [show k * 2 + 2 = (k * 2 + 1) + 1 from rfl, List.getElem?_cons_succ, List.getElem?_cons_succ, show (k * 2 + 1) + 1 + 1 = (k * 2 + 1 + 1) + 1 from rfl, List.getElem?_cons_succ, List.getElem?_cons_succ]
      exact this
theorem cellsR_drop (l : List Gr.Rec) (k : Nat) : (cellsR l).drop (k * 2) = cellsR (l.drop k) := by
  induction l generalizing k with
  | nil => simp [cellsR]
  | cons x l ih =>
    cases k with
    | zero => simp
    | succ k =>
      rw [cellsR_cons, Nat.add_mul, Nat.one_mul, List.drop_succ_cons, List.drop_succ_cons, List.drop_succ_cons]
      exact ih k
theorem cellsR_take (l : List Gr.Rec) (k : Nat) : (cellsR l).take (k * 2) = cellsR (l.take k) := by
  induction l generalizing k with
  | nil => simp [cellsR]
  | cons x l ih =>
    cases k with
    | zero => simp [cellsR]
    | succ k =>
      rw [cellsR_cons, Nat.add_mul, Nat.one_mul, List.take_succ_cons, List.take_succ_cons, List.take_succ_cons, cellsR_cons, ih k]
theorem cellsR_one (l : List Gr.Rec) : ∀ u ∈ cellsR l, u.oneCell' = true := by
  intro u hu
  simp only [cellsR, List.mem_flatMap] at hu
  obtain ⟨x, _, hx⟩ := hu
  simp at hx
  rcases hx with rfl | rfl <;> rfl

/-- the slice '.slice A n c' reads as the records l -/
def RD (w : World) (A : Option Addr) (n : Nat) (l : List Gr.Rec) : Prop := n = l.length ∧ Reads w 2 A n (cellsR l)
section
variable {w w' : World} {n : Nat} {A : Option Addr} {l : List Gr.Rec}
theorem RD.nil (w : World) (A : Option Addr) : RD w A 0 [] := ⟨rfl, Reads.nil w 2 A⟩
theorem RD.below (h : RD w A n l) (hb : Below w.heap.size w w') : RD w' A n l := ⟨h.1, h.2.below hb⟩
theorem RD.drewN (h : RD w A n l) (k : Nat) : RD (w.drewN k) A n l := h
theorem RD.drew (h : RD w A n l) : RD w.drew A n l := h
theorem RD.alloc (h : RD w A n l) (o : Obj) : RD (w.alloc o) A n l := ⟨h.1, h.2.alloc o⟩
theorem RD.keep (h : RD w A n l) (hs : w.heap.size ≤ w'.heap.size) (hk : ∀ b o, A = some ⟨b, o, none⟩ → b < w.heap.size → w'.heap[b]? = w.heap[b]?) : RD w' A n l := ⟨h.1, h.2.keep hs hk⟩
theorem RD.at_ (h : RD w A n l) {k : Nat} (hk : k < n) : ∃ b o, A = some ⟨b, o, none⟩ ∧ b < w.heap.size ∧ w.cell? ⟨b, o + k * 2, none⟩ = some (.int .i64 (l[k]'(h.1 ▸ hk)).1) ∧ w.cell? ⟨b, o + k * 2 + 1, none⟩ = some (.int .i64 (l[k]'(h.1 ▸ hk)).2) := by
  obtain ⟨b, o, rfl, hb, hc⟩ := h.2.2 (by omega)
  have := cellsR_at l k (h.1 ▸ hk)
  exact ⟨b, o, rfl, hb, hc _ _ this.1, by rw [Nat.add_assoc]; exact hc _ _ this.2⟩
theorem RD.drop_ (h : RD w A n l) (k : Nat) (hk : k ≤ n) : RD w (if n = k then A else A.map (·.add (k * 2))) (n - k) (l.drop k) :=
  ⟨by rw [List.length_drop, h.1], by rw [← cellsR_drop]; exact h.2.drop_ k hk⟩
theorem RD.take_ (h : RD w A n l) (k : Nat) (hk : k ≤ n) : RD w A k (l.take k) :=
  ⟨by rw [List.length_take, ← h.1]; omega, by rw [← cellsR_take]; exact h.2.take_ k hk⟩
theorem RD.of_own {base c : Nat} {e : TypeId} (h : w.ownsRow base e 2 (.slice A n c) n (cellsR l)) : RD w A n l := by
  refine ⟨?_, Reads.of_own h⟩
  have := h.1
  rw [cellsR_length] at this
  omega
end

/-- the slice '.slice A n c' reads as the records l and lies in a block of the call's own, from 'base' on, that may be written -/
def OwnR (w : World) (base : Nat) (A : Option Addr) (n : Nat) (l : List Gr.Rec) : Prop :=
  n = l.length ∧ (0 < n → ∃ g o cur, A = some ⟨g, o, none⟩ ∧ base ≤ g ∧ Blk w g 24 cur ∧ ∀ j u, (cellsR l)[j]? = some u → cur[o + j]? = some u)
section
variable {w w' : World} {n base : Nat} {A : Option Addr} {l : List Gr.Rec}
theorem OwnR.nil (w : World) (base : Nat) (A : Option Addr) : OwnR w base A 0 [] := ⟨rfl, fun h => absurd h (by omega)⟩
theorem OwnR.rd (h : OwnR w base A n l) : RD w A n l := by
  refine ⟨h.1, by rw [cellsR_length, h.1], fun hn => ?_⟩
  obtain ⟨g, o, cur, rfl, _, hb, hc⟩ := h.2 hn
  exact ⟨g, o, rfl, hb.lt, fun j u hu => (hb.cell _).trans (hc j u hu)⟩
theorem OwnR.keep (h : OwnR w base A n l) (hk : ∀ b o, A = some ⟨b, o, none⟩ → base ≤ b → b < w.heap.size → w'.heap[b]? = w.heap[b]?) : OwnR w' base A n l :=
  ⟨h.1, fun hn => by
    obtain ⟨g, o, cur, e, hg, hb, hc⟩ := h.2 hn
    exact ⟨g, o, cur, e, hg, (hk g o e hg hb.lt).trans hb, hc⟩⟩
theorem OwnR.below (h : OwnR w base A n l) (hb : Below w.heap.size w w') : OwnR w' base A n l := h.keep fun b _ _ _ hlt => hb.block b hlt
theorem OwnR.mono {base' : Nat} (h : OwnR w base A n l) (hb : base' ≤ base) : OwnR w base' A n l :=
  ⟨h.1, fun hn => by
    obtain ⟨g, o, cur, e, hg, r⟩ := h.2 hn
    exact ⟨g, o, cur, e, by omega, r⟩⟩
theorem OwnR.of_own {c : Nat} (h : w.ownsRow base 24 2 (.slice A n c) n (cellsR l)) : OwnR w base A n l := by
  have hl := (RD.of_own h).1
  refine ⟨hl, fun hn => ?_⟩
  rcases h.2 with ⟨_, h0⟩ | ⟨g, cap, cur, hv, hb, hg, _, _, hcs, htake⟩
  · omega
  · have hA : A = some ⟨g, 0, none⟩ := by injection hv
    subst hA
    refine ⟨g, 0, cur, rfl, hb, hg, fun j u hu => ?_⟩
    rw [Nat.zero_add]
    rw [← htake, List.getElem?_take] at hu
    split at hu
    · simpa using hu
    · cases hu
theorem OwnR.cut (h : OwnR w base A n l) {c : Nat} (hc : n ≤ c) (j : Nat) (hj : j ≤ n) : OwnR w base (if c = j then A else A.map (·.add (j * 2))) (n - j) (l.drop j) := by
  refine ⟨by rw [List.length_drop, h.1], fun hn => ?_⟩
  obtain ⟨g, o, cur, rfl, hg, hb, hcu⟩ := h.2 (by omega)
  rw [if_neg (by omega)]
  refine ⟨g, o + j * 2, cur, ?_, hg, hb, fun i u hu => ?_⟩
  · by_cases h0 : j = 0
    · subst h0; simp [Addr.add]
    · have h2 : ¬ j * 2 = 0 := by omega
      simp [Addr.add, h2]
  · rw [← cellsR_drop, List.getElem?_drop] at hu
    rw [Nat.add_assoc]
    exact hcu _ u hu
end

/-- an answer that is a slice of new memory reading as l -/
def IsRow (w : World) (base : Nat) (v : Value) (l : List Gr.Rec) : Prop := ∃ A N c, v = .slice A N c ∧ N ≤ c ∧ c ≤ maxLen ∧ OwnR w base A N l

end Go.Proofs.Ytkkbgohijokbhaa
