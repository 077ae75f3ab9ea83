/- append of a record to a row of the book. -/
import Derived.Test.YtkkbgohijokbhaaTc
import Derived.ArgAppend
namespace Go.Proofs.Ytkkbgohijokbhaa
open Go.RowKit
open Gr (Noted)

theorem info86 : (Try.prog.info? 86).map (fun i => (i.zero.map (·.cells.size), i.size, i.bytes)) = some (some 17, 17, 24) := by kernel_rfl
theorem info86_parts : ∃ i z, Try.prog.info? 86 = some i ∧ i.zero = some z ∧ z.cells.size = 17 ∧ i.size = 17 ∧ i.bytes = 24 := by
  have h := info86
  cases hi : Try.prog.info? 86 with
  | none => rw [hi] at h; cases h
  | some i =>
    rw [hi] at h
    simp only [Option.map_some, Option.some.injEq, Prod.mk.injEq] at h
    cases hz : i.zero with
    | none => rw [hz] at h; simp at h
    | some z =>
      rw [hz] at h
      simp only [Option.map_some, Option.some.injEq] at h
      exact ⟨i, z, rfl, hz, h.1, h.2.1, h.2.2⟩

theorem setCells_facts (g : Nat) : ∀ (vs : List Value) (o : Nat) (w : World), (w.setCells g o vs).os = w.os ∧ (w.setCells g o vs).tape = w.tape ∧ (w.setCells g o vs).output = w.output ∧ (w.setCells g o vs).heap.size = w.heap.size ∧
    (∀ k, k ≠ g → (w.setCells g o vs).heap[k]? = w.heap[k]?) ∧ ∀ t cs, Blk w g t cs → ∃ cs', Blk (w.setCells g o vs) g t cs' ∧ cs'.size = cs.size := by
  intro vs
  induction vs with
  | nil => intro o w; exact ⟨rfl, rfl, rfl, rfl, fun _ _ => rfl, fun t cs h => ⟨cs, h, rfl⟩⟩
  | cons v r ih =>
    intro o w
    obtain ⟨h1, h2, h3, h4, h5, h6⟩ := ih (o + 1) (w.setCell ⟨g, o, none⟩ v)
    refine ⟨h1, h2, h3, h4.trans (by simp [World.setCell]), fun k hk => (h5 k hk).trans (Below.heap_setCell _ _ _ _ hk), fun t cs h => ?_⟩
    obtain ⟨cs', a, b⟩ := h6 t _ (h.set_ o v)
    exact ⟨cs', a, by rw [b]; simp⟩
theorem recCells_one (p : Noted) : ∀ u ∈ recCells p, u.oneCell' = true := by
  intro u hu
  simp only [recCells, List.mem_cons, List.mem_append, List.mem_map] at hu
  rcases hu with rfl | ⟨b, _, rfl⟩ | ⟨b, _, rfl⟩ <;> rfl
theorem RowC.init {cur : Array Value} {o : Nat} {l r : List Noted} (h : RowC cur o (l ++ r)) : RowC cur o l := fun i p hp => h i p (by rw [List.getElem?_append_left (List.getElem?_eq_some_iff.1 hp).1]; exact hp)

/-- a row in new memory -/
theorem own_rval {w : World} {b B m : Nat} {v : Value} {xs : List Value} {l : List Noted} (h : w.ownsRow b 86 17 v m xs) (hB : B ≤ b) (hm : 0 < m) (hl : l.length = m)
    (hx : ∀ i p, l[i]? = some p → p.2.1.length = 8 ∧ p.2.2.length = 8 ∧ ∀ j, j < 17 → xs[i * 17 + j]? = (recCells p)[j]?) :
    ∃ g c, v = .slice (some ⟨g, 0, none⟩) m c ∧ RVal w B v l ∧ b ≤ g := by
  rcases h.2 with ⟨-, h0⟩ | ⟨g, cap, cur, rfl, hb, hg, hnc, hcm, hcs, htake⟩
  · omega
  · refine ⟨g, cap, rfl, .inr ⟨g, 0, cap, cur, by rw [hl], by omega, hcm, by omega, hg, by omega, fun i p hp => ?_⟩, hb⟩
    obtain ⟨q1, q2, q3⟩ := hx i p hp
    have hi := (List.getElem?_eq_some_iff.1 hp).1
    refine ⟨q1, q2, fun j hj => ?_⟩
    rw [← q3 j hj, ← htake, Nat.zero_add, List.getElem?_take_of_lt (by omega)]
    simp

theorem append_rec (w : World) (B k c : Nat) (d : List Int) (V : Nat → Value) (L : Nat → List Noted) (h : BRep w B k d V L) (hc : c < 3) (p : Noted) (q1 : p.2.1.length = 8) (q2 : p.2.2.length = 8) (G : Nat)
    (hG : ∀ j u, (recCells p)[j]? = some u → w.cell? ⟨G, j, none⟩ = some u) (hlen : (L c).length ≤ 1048576) (hB : B ≤ w.heap.size) (ty : TypeId) :
    ∃ A' c' w', (Builtin.append_ #[70, 70] ty #[V c, .slice (some ⟨G, 0, none⟩) 1 1]).run Try.prog w = .ok (.slice A' ((L c).length + 1) c') w' ∧ BRep w' B k d V L ∧ RVal w' B (.slice A' ((L c).length + 1) c') (L c ++ [p]) ∧ Fk B w w' ∧
      ∀ g, (Value.slice A' ((L c).length + 1) c').ownBlock = some g → ∀ j, j < 3 → j ≠ c → (V j).ownBlock ≠ some g := by
  obtain ⟨i0, z, hi, hz, hzs, hsz, hby⟩ := info86_parts
  have hrl : (recCells p).length = 1 * 17 := by rw [recCells_length q1 q2]
  have hadd : ∀ j, (⟨G, 0, none⟩ : Addr).add j = ⟨G, j, none⟩ := fun j => by unfold Addr.add; split <;> simp_all
  have hnews : ∀ j u, (recCells p)[j]? = some u → w.cell? ((⟨G, 0, none⟩ : Addr).add j) = some u := fun j u hu => by rw [hadd]; exact hG j u hu
  -- what a new row leaves
  have fresh : ∀ (v' : Value) (w' : World) (xs : List Value), w'.ownsRow w.heap.size 86 17 v' ((L c).length + 1) xs → w.grownBy w' none →
      (∀ i q, (L c ++ [p])[i]? = some q → q.2.1.length = 8 ∧ q.2.2.length = 8 ∧ ∀ j, j < 17 → xs[i * 17 + j]? = (recCells q)[j]?) →
      ∃ A' c', v' = .slice A' ((L c).length + 1) c' ∧ BRep w' B k d V L ∧ RVal w' B v' (L c ++ [p]) ∧ Fk B w w' ∧ ∀ g, v'.ownBlock = some g → ∀ j, j < 3 → j ≠ c → (V j).ownBlock ≠ some g := by
    intro v' w' xs hown hg hx
    obtain ⟨g, c', hv', hR, hgb⟩ := own_rval hown hB (by omega) (by simp) hx
    have hbel : Below w.heap.size w w' := ⟨hg.os, hg.tape, hg.output, hg.size, fun i hi => hg.block i hi (by simp)⟩
    refine ⟨_, c', hv', h.below hbel, hR, Fk.of_below hbel B, fun g' hg' j hj _ hVj => ?_⟩
    rw [hv'] at hg'
    simp [Value.ownBlock] at hg'
    subst hg'
    rcases h.row j hj with ⟨e, -⟩ | ⟨g2, o2, c2, cur2, e, -, -, -, hb2, -⟩
    · rw [e] at hVj; cases hVj
    · rw [e] at hVj
      simp [Value.ownBlock] at hVj
      have := hb2.lt
      omega
  rcases h.row c hc with ⟨e, e2⟩ | ⟨g, o, cap, cur, e, r1, r2, hgB, hb, hs, hr⟩
  · obtain ⟨v', w', hrun, hown, hg, -, -⟩ := run_append_own_at (P := Try.prog) w w.heap.size 70 ty 86 i0 z 17 24 Try.underlying70 hi hz hsz hby hzs (by decide) (.slice none 0 0) 0 [] (World.ownsRow_nil _ _ _ _) ⟨G, 0, none⟩ 1 1 (recCells p) hrl hnews (recCells_one p) (by unfold maxLen; omega) (by omega) (Nat.le_refl _)
    have hl0 : (L c).length = 0 := by rw [e2]; rfl
    obtain ⟨A', c', hv', h1, h2, h3, h4⟩ := fresh v' w' _ (by rw [hl0]; exact hown) hg (fun i q hq => by
      rw [e2] at hq
      have hi0 : i = 0 := by
        have := (List.getElem?_eq_some_iff.1 hq).1
        simpa using this
      subst hi0
      simp at hq
      subst hq
      exact ⟨q1, q2, fun j hj => by simp⟩)
    exact ⟨A', c', w', by rw [e, hrun, hv'], h1, by rw [← hv']; exact h2, h3, by rw [← hv']; exact h4⟩
  · by_cases hroom : (L c).length + 1 ≤ cap
    · obtain ⟨s1, s2, s3, s4, s5, s6⟩ := setCells_facts g (recCells p) (o + (L c).length * 17) w
      obtain ⟨cur', hb', hs'⟩ := s6 86 cur hb
      have hin : ∀ j, j < (recCells p).length → (w.cell? ⟨g, o + (L c).length * 17 + j, none⟩).isSome = true := fun j hj => by
        rw [hb.cell]
        rw [recCells_length q1 q2] at hj
        have : o + (L c).length * 17 + j < cur.size := by
          have : ((L c).length + 1) * 17 ≤ cap * 17 := Nat.mul_le_mul_right _ hroom
          omega
        rw [Array.getElem?_eq_getElem this]; rfl
      have hrun := run_append_room_cells (P := Try.prog) w 70 ty 86 i0 Try.underlying70 hi g o (L c).length cap ⟨G, 0, none⟩ 1 1 (recCells p) (by rw [hsz]; exact hrl) hnews (recCells_one p) hroom (by rw [hsz]; exact hin) (fun j _ => hb.frozen _)
      rw [hsz] at hrun
      have hfk : Fk B w (w.setCells g (o + (L c).length * 17) (recCells p)) := ⟨s1, s2, s3, by rw [s4]; exact Nat.le_refl _, fun i hi hcond => s5 i (by
        rintro rfl
        rcases hcond with hcond | ⟨t, cs, hb2, h1, -⟩
        · omega
        · exact Blk.ne_ hb hb2 (fun e => h1 e.symm) rfl)⟩
      have hR' : RowC cur' o (L c ++ [p]) := by
        intro i q hq
        by_cases hi2 : i < (L c).length
        · rw [List.getElem?_append_left hi2] at hq
          obtain ⟨a1, a2, a3⟩ := hr i q hq
          refine ⟨a1, a2, fun j hj => ?_⟩
          rw [← a3 j hj, ← hb'.cell, ← hb.cell]
          refine World.cell?_setCells_out g _ _ w _ fun _ _ => .inl ?_
          show o + i * 17 + j < o + (L c).length * 17
          have : (i + 1) * 17 ≤ (L c).length * 17 := Nat.mul_le_mul_right _ hi2
          omega
        · have hi3 : i = (L c).length := by
            have := (List.getElem?_eq_some_iff.1 hq).1
            simp at this; omega
          subst hi3
          rw [List.getElem?_append_right (Nat.le_refl _), Nat.sub_self] at hq
          simp at hq
          subst hq
          refine ⟨q1, q2, fun j hj => ?_⟩
          rw [← hb'.cell, World.cell?_setCells_in g (recCells p) _ w hin j (by rw [recCells_length q1 q2]; exact hj)]
          rw [List.getElem?_eq_getElem (by rw [recCells_length q1 q2]; exact hj)]
      refine ⟨some ⟨g, o, none⟩, cap, _, by rw [e]; exact hrun, ⟨(s5 k (Blk.ne_ h.main hb (by decide))).trans h.main, h.new, fun j hj => ?_, h.apart⟩, .inr ⟨g, o, cap, cur', by simp, by simpa using hroom, r2, hgB, hb', by rw [hs']; exact hs, hR'⟩, hfk, fun g' hg' j hj hjc => ?_⟩
      · by_cases ej : j = c
        · subst ej
          rw [e]
          exact .inr ⟨g, o, cap, cur', rfl, r1, r2, hgB, hb', by rw [hs']; exact hs, hR'.init⟩
        · refine (h.row j hj).keep fun g' hg' _ => s5 g' ?_
          rintro rfl
          exact h.apart j c hj hc ej _ hg' (by rw [e]; rfl)
      · simp [Value.ownBlock] at hg'
        subst hg'
        exact h.apart c j hc hj (by omega) g (by rw [e]; rfl)
    · have hcl : ∀ i, i < (L c).length * 17 → cur[o + i]? = some (cur.getD (o + i) undef) := fun i hi2 => by
        have : o + i < cur.size := by
          have : (L c).length * 17 ≤ cap * 17 := Nat.mul_le_mul_right _ r1
          omega
        rw [Array.getElem?_eq_getElem this]
        simp [Array.getD, this]
      have hadd2 : ∀ j, (⟨g, o, none⟩ : Addr).add j = ⟨g, o + j, none⟩ := fun j => by unfold Addr.add; split <;> simp_all
      obtain ⟨v', w', hrun, hown, hg⟩ := run_append_arg_grows (P := Try.prog) w 70 ty 86 i0 z 17 24 Try.underlying70 hi hz hsz hby hzs (by decide) ⟨g, o, none⟩ (L c).length cap ((List.range ((L c).length * 17)).map fun i => cur.getD (o + i) undef) (by simp)
        (fun j u hu => by
          have hj : j < (L c).length * 17 := by
            have := (List.getElem?_eq_some_iff.1 hu).1
            simpa using this
          rw [hadd2, hb.cell, hcl j hj]
          simpa [hj] using hu)
        ⟨G, 0, none⟩ 1 1 (recCells p) hrl hnews (by omega) (by unfold maxLen; omega) (by omega)
      obtain ⟨A', c', hv', h1, h2, h3, h4⟩ := fresh v' w' _ hown hg (fun i q hq => by
        by_cases hi2 : i < (L c).length
        · rw [List.getElem?_append_left hi2] at hq
          obtain ⟨a1, a2, a3⟩ := hr i q hq
          refine ⟨a1, a2, fun j hj => ?_⟩
          have hlt : i * 17 + j < (L c).length * 17 := by
            have : (i + 1) * 17 ≤ (L c).length * 17 := Nat.mul_le_mul_right _ hi2
            omega
          rw [List.getElem?_append_left (by simpa using hlt), ← a3 j hj, Nat.add_assoc, hcl _ hlt]
          simp [hlt]
        · have hi3 : i = (L c).length := by
            have := (List.getElem?_eq_some_iff.1 hq).1
            simp at this; omega
          subst hi3
          rw [List.getElem?_append_right (Nat.le_refl _), Nat.sub_self] at hq
          simp at hq
          subst hq
          refine ⟨q1, q2, fun j hj => ?_⟩
          rw [List.getElem?_append_right (by simp), List.length_map, List.length_range]
          congr 1; omega)
      exact ⟨A', c', w', by rw [e, hrun, hv'], h1, by rw [← hv']; exact h2, h3, by rw [← hv']; exact h4⟩
end Go.Proofs.Ytkkbgohijokbhaa
