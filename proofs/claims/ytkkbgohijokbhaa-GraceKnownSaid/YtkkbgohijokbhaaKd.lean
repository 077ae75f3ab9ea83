/- rows of calls that GraceKnown builds. -/
import Derived.Test.YtkkbgohijokbhaaKc
namespace Go.Proofs.Ytkkbgohijokbhaa
open Go.RowKit

theorem info48 : (Try.prog.info? 48).map (fun i => (i.zero.map (·.cells.size), i.size, i.bytes)) = some (some 3, 3, 24) := by kernel_rfl
theorem info48_parts : ∃ i z, Try.prog.info? 48 = some i ∧ i.zero = some z ∧ z.cells.size = 3 ∧ i.size = 3 ∧ i.bytes = 24 := by
  have h := info48
  cases hi : Try.prog.info? 48 with
  | none => rw [hi] at h; cases h
  | some i =>
    rw [hi] at h
    simp only [Option.map_some, Option.some.injEq, Prod.mk.injEq] at h
    cases hz : i.zero with
    | none => rw [hz] at h; simp at h
    | some z =>
      rw [hz] at h
      simp only [Option.map_some, Option.some.injEq] at h
      exact ⟨i, z, rfl, hz, h.1, h.2.1, h.2.2⟩
def isI : Value → Bool
  | .int .i64 _ => true
  | _ => false
theorem isI_of {v : Value} (h : isI v = true) : ∃ z, v = .int .i64 z := by
  unfold isI at h
  split at h
  · exact ⟨_, rfl⟩
  · cases h
/-- a row of calls, in memory that is newer than base -/
structure Dl (w : World) (base : Nat) (v : Value) (n : Nat) (xs : List Value) : Prop where
  own : w.ownsRow base 48 3 v n xs
  ints : xs.all isI = true
theorem Dl.nil (w : World) (base : Nat) : Dl w base (.slice none 0 0) 0 [] := ⟨World.ownsRow_nil _ _ _ _, rfl⟩
theorem Dl.below {w w' : World} {base n : Nat} {v : Value} {xs : List Value} (h : Dl w base v n xs) (hb : Below w.heap.size w w') : Dl w' base v n xs := ⟨own_below h.own hb, h.ints⟩
theorem Dl.alloc {w : World} {base n : Nat} {v : Value} {xs : List Value} (h : Dl w base v n xs) (o : Obj) : Dl (w.alloc o) base v n xs := h.below ((Below.refl _ _).alloc (Nat.le_refl _) _)

theorem wpList_append_do {ops : Array Oper} {rest : List Oper} {o : Oper} {a : Act} {Q : Exit → Act → World → Prop} {w : World} (hgd : o.guard = none) (s x : Operand)
    (ho : o.op = .call { callee := .builtin .append, args := #[s, x], argTypes := #[39, 39] }) (base : Nat) (v : Value) (n : Nat) (xs : List Value) (hs : a.eval s = v) (hown : Dl w base v n xs) (m g : Nat) (cs : Array Value)
    (hx : a.eval x = .slice (some ⟨g, 0, none⟩) m m) (hg : Blk w g 48 cs) (hcs : cs.size = m * 3) (hint : cs.toList.all isI = true) (hn : n + m ≤ 1048576) (hbase : base ≤ w.heap.size) (W0 : World) (hb : Below base W0 w)
    (h : ∀ A' c' w', n + m ≤ c' → c' ≤ maxLen → Dl w' base (.slice A' (n + m) c') (n + m) (xs ++ cs.toList) → Below base W0 w' → wpList Try.prog ops Q rest (a.put o.dst (.slice A' (n + m) c')) w') : wpList Try.prog ops Q (o :: rest) a w := by
  obtain ⟨i0, z, hi, hz, hzs, hsz, hby⟩ := info48_parts
  have hr : Reads w 3 (some ⟨g, 0, none⟩) m cs.toList := ⟨by simpa using hcs, fun _ => ⟨g, 0, rfl, hg.lt, fun j u hu => by
    rw [Nat.zero_add, hg.cell]
    simpa using hu⟩⟩
  have h1 : ∀ u ∈ cs.toList, u.oneCell' = true := fun u hu => by
    obtain ⟨z, rfl⟩ := isI_of (List.all_eq_true.1 hint u hu)
    rfl
  refine wpList_append_any w hgd s x 39 ho base 48 i0 z 3 24 Try.underlying39 hi hz hsz hby hzs (by decide) v n xs hs hown.own _ m m cs.toList hx hr h1 (by unfold maxLen; omega) (by omega) hbase ?_
  intro v' w' ho' hg' _
  obtain ⟨A', c', rfl, h2, h3⟩ := own_slice ho'
  exact h A' c' w' h2 h3 ⟨ho', by rw [List.all_append, hown.ints, hint]; rfl⟩ (below_own hb hown.own hg' hbase (Nat.le_refl _))

theorem Dl.dos {w : World} {base n c : Nat} {A : Option Addr} {xs : List Value} (h : Dl w base (.slice A n c) n xs) : Dos w A n := by
  intro k hk
  have hlen := h.own.1
  obtain ⟨b, o, e1, hb, hc⟩ := (Reads.of_own h.own).2 (by omega)
  have hat : ∀ j, j < n * 3 → ∃ z, w.cell? ⟨b, o + j, none⟩ = some (.int .i64 z) := fun j hj => by
    obtain ⟨u, hu⟩ : ∃ u, xs[j]? = some u := ⟨_, List.getElem?_eq_getElem (by omega)⟩
    obtain ⟨z, rfl⟩ := isI_of (List.all_eq_true.1 h.ints u (List.mem_of_getElem? hu))
    exact ⟨z, hc j _ hu⟩
  obtain ⟨x, hx⟩ := hat (k * 3) (by omega)
  obtain ⟨y, hy⟩ := hat (k * 3 + 1) (by omega)
  obtain ⟨z, hz⟩ := hat (k * 3 + 2) (by omega)
  exact ⟨b, o, x, y, z, e1, hb, hx, by rw [Nat.add_assoc]; exact hy, by rw [Nat.add_assoc]; exact hz⟩
/-- the calls of the row 'many' -/
def Firsts (xs : List Value) (n : Nat) : Prop := ∀ j, j < n → xs[j * 3]? = some (.int .i64 3) ∧ xs[j * 3 + 1]? = some (.int .i64 0)
theorem Firsts.step {xs : List Value} {n : Nat} (h : Firsts xs n) (hl : xs.length = n * 3) (z : Value) : Firsts (xs ++ [.int .i64 3, .int .i64 0, z]) (n + 1) := by
  intro j hj
  by_cases e : j < n
  · rw [List.getElem?_append_left (by omega), List.getElem?_append_left (by omega)]
    exact h j e
  · obtain rfl : j = n := by omega
    rw [List.getElem?_append_right (by omega), List.getElem?_append_right (by omega), hl]
    constructor
    · rw [Nat.sub_self]; rfl
    · rw [show j * 3 + 1 - j * 3 = 1 by omega]; rfl
theorem Firsts.more {xs ys : List Value} {n : Nat} (h : Firsts xs n) (hl : xs.length = n * 3) : Firsts (xs ++ ys) n := by
  intro j hj
  rw [List.getElem?_append_left (by omega), List.getElem?_append_left (by omega)]
  exact h j hj
theorem Dl.many {w : World} {base n c : Nat} {A : Option Addr} {xs : List Value} (h : Dl w base (.slice A n c) n xs) (hf : Firsts xs 200) : Many w A := by
  intro k hk
  have hlen := h.own.1
  have hpos : 0 < xs.length := by
    have := (List.getElem?_eq_some_iff.1 (hf k hk).1).1
    omega
  obtain ⟨b, o, e1, hb, hc⟩ := (Reads.of_own h.own).2 (by omega)
  exact ⟨b, o, e1, hb, hc _ _ (hf k hk).1, by rw [Nat.add_assoc]; exact hc _ _ (hf k hk).2⟩
theorem Dos.below {w w' : World} {A : Option Addr} {n : Nat} (h : Dos w A n) (hb : Below w.heap.size w w') : Dos w' A n := by
  intro k hk
  obtain ⟨b, o, x, y, z, e, hlt, c1, c2, c3⟩ := h k hk
  exact ⟨b, o, x, y, z, e, Nat.lt_of_lt_of_le hlt hb.size, (hb.cell (p := ⟨b, _, none⟩) hlt).trans c1, (hb.cell (p := ⟨b, _, none⟩) hlt).trans c2, (hb.cell (p := ⟨b, _, none⟩) hlt).trans c3⟩
theorem Many.below {w w' : World} {A : Option Addr} (h : Many w A) (hb : Below w.heap.size w w') : Many w' A := by
  intro k hk
  obtain ⟨b, o, e, hlt, c1, c2⟩ := h k hk
  exact ⟨b, o, e, Nat.lt_of_lt_of_le hlt hb.size, (hb.cell (p := ⟨b, _, none⟩) hlt).trans c1, (hb.cell (p := ⟨b, _, none⟩) hlt).trans c2⟩
theorem Dos.nil (w : World) : Dos w none 0 := fun k hk => absurd hk (by omega)
end Go.Proofs.Ytkkbgohijokbhaa
