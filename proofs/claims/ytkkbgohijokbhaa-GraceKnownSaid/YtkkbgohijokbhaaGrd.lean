/- THE PURE SIDE: what the statement GraceWaits notes of the records that wait, and why it holds. -/
import Derived.Test.YtkkbgohijokbhaaGrc
namespace Go.Proofs.Ytkkbgohijokbhaa.Gr

/-- which processors are still inside, which are still silent -/
abbrev Flags := List Bool × List Bool
abbrev Noted := Rec × Flags

structure Fit (s : St) (p : Noted) : Prop where
  il : p.2.1.length = 8
  sl : p.2.2.length = 8
  at_ : p.1.2 ≤ s.ended + (if s.going then 2 else 0)
  ins : ∀ k, k < 3 → p.2.1.getD k false = true → 0 < s.deep.getD k 0
  old : p.1.2 ≤ s.ended → ∀ k, k < 3 → p.2.1.getD k false = false ∧ p.2.2.getD k false = false
  run : s.going = true → p.1.2 ≤ s.ended + 1 → ∀ k, k < 3 → (p.2.1.getD k false = true ∨ p.2.2.getD k false = true) → s.needs.getD k false = true
structure Wt (s : St) (L : Nat → List Noted) : Prop where
  n3 : s.deep.length = 3
  rows : ∀ c, c < 3 → s.rows.getD c [] = (L c).map (·.1)
  fit : ∀ c, c < 3 → ∀ p ∈ L c, Fit s p

def upd (L : Nat → List Noted) (c : Nat) (l : List Noted) : Nat → List Noted := fun j => if j = c then l else L j
def clrI (c : Nat) (p : Noted) : Noted := (p.1, p.2.1.set c false, p.2.2)
def clrS (c : Nat) (p : Noted) : Noted := (p.1, p.2.1, p.2.2.set c false)
def allOf (f : Noted → Noted) (L : Nat → List Noted) : Nat → List Noted := fun j => (L j).map f

theorem getD_set_true {l : List Bool} {c k : Nat} (h : (l.set c false).getD k false = true) : k ≠ c ∧ l.getD k false = true := by
  rw [List.getD_eq_getElem?_getD, List.getElem?_set] at h
  by_cases hk : c = k
  · rw [if_pos hk] at h
    split at h <;> simp at h
  · rw [if_neg hk] at h
    exact ⟨fun h' => hk h'.symm, by rw [List.getD_eq_getElem?_getD]; exact h⟩
theorem getD_set_false {l : List Bool} {c k : Nat} (h : l.getD k false = false) : (l.set c false).getD k false = false := by
  cases e : (l.set c false).getD k false with
  | false => rfl
  | true => have := (getD_set_true e).2; rw [h] at this; cases this

theorem Fit.clrI {s : St} {p : Noted} (h : Fit s p) (c : Nat) : Fit s (clrI c p) :=
  ⟨by simp [Gr.clrI, h.il], h.sl, h.at_, fun k hk hi => h.ins k hk (getD_set_true hi).2, fun ho k hk => ⟨getD_set_false (h.old ho k hk).1, (h.old ho k hk).2⟩,
    fun hg ha k hk hi => h.run hg ha k hk (hi.imp (fun hi => (getD_set_true hi).2) id)⟩
theorem Fit.clrS {s : St} {p : Noted} (h : Fit s p) (c : Nat) : Fit s (clrS c p) :=
  ⟨h.il, by simp [Gr.clrS, h.sl], h.at_, h.ins, fun ho k hk => ⟨(h.old ho k hk).1, getD_set_false (h.old ho k hk).2⟩,
    fun hg ha k hk hi => h.run hg ha k hk (hi.imp id (fun hi => (getD_set_true hi).2))⟩
/-- the depths alone were turned -/
theorem Fit.deep {s : St} {p : Noted} (h : Fit s p) (d : List Int) (hd : ∀ k, k < 3 → p.2.1.getD k false = true → 0 < d.getD k 0) : Fit { s with deep := d } p := ⟨h.il, h.sl, h.at_, hd, h.old, h.run⟩
theorem Fit.rows {s : St} {p : Noted} (h : Fit s p) (r : List (List Rec)) : Fit { s with rows := r } p := ⟨h.il, h.sl, h.at_, h.ins, h.old, h.run⟩
theorem Fit.begin {s : St} {p : Noted} (h : Fit s p) (hg : s.going = false) (hn : s.deep.length = 3) : Fit s.begin p := by
  refine ⟨h.il, h.sl, ?_, h.ins, h.old, fun _ _ k hk _ => ?_⟩
  · have := h.at_; rw [hg] at this; simp [St.begin] at this ⊢; omega
  · have : k = 0 ∨ k = 1 ∨ k = 2 := by omega
    rcases this with rfl | rfl | rfl <;> simp [St.begin, St.cpus, hn]

section
variable {s : St} {L : Nat → List Noted} {E : Int} {c : Nat}
theorem Wt.has (h : Wt s L) (hc : c < 3) : s.has (c : Int) = true := has_nat (by rw [h.n3]; exact hc)

theorem lock_nat (h : Wt s L) (hc : c < 3) : s.lock c = if s.deep.getD c 0 = 8 then (s, 5) else ({ s with deep := s.deep.set c (s.deep.getD c 0 + 1) }, 0) := by
  unfold St.lock
  rw [if_pos (h.has hc)]
  rfl
theorem unlock_nat (h : Wt s L) (hc : c < 3) : s.unlock c = if s.deep.getD c 0 = 0 then (s, 292) else ({ s with deep := s.deep.set c (s.deep.getD c 0 - 1) }, 0) := by
  unfold St.unlock
  rw [if_pos (h.has hc)]
  rfl
theorem Wt.lock (h : Wt s L) (ho : Ok s E) (hc : c < 3) : Wt { s with deep := s.deep.set c (s.deep.getD c 0 + 1) } L := by
  refine ⟨by simpa using h.n3, h.rows, fun j hj p hp => (h.fit j hj p hp).deep _ fun k hk hi => ?_⟩
  have := (h.fit j hj p hp).ins k hk hi
  rw [getD_set _ _ _ _ _ (by rw [h.n3]; exact hc)]
  split
  · have := ho.dp c (by rw [h.n3]; exact hc); omega
  · exact this
theorem Wt.unlock (h : Wt s L) (hc : c < 3) (h1 : 1 < s.deep.getD c 0) : Wt { s with deep := s.deep.set c (s.deep.getD c 0 - 1) } L := by
  refine ⟨by simpa using h.n3, h.rows, fun j hj p hp => (h.fit j hj p hp).deep _ fun k hk hi => ?_⟩
  have := (h.fit j hj p hp).ins k hk hi
  rw [getD_set _ _ _ _ _ (by rw [h.n3]; exact hc)]
  split
  · omega
  · exact this
theorem Wt.unlock0 (h : Wt s L) (hc : c < 3) : Wt { s with deep := s.deep.set c (s.deep.getD c 0 - 1) } (allOf (clrI c) L) := by
  refine ⟨by simpa using h.n3, fun j hj => ?_, fun j hj p hp => ?_⟩
  · rw [h.rows j hj]; simp [allOf, clrI]
  · obtain ⟨q, hq, rfl⟩ := List.mem_map.1 hp
    refine ((h.fit j hj q hq).clrI c).deep _ fun k hk hi => ?_
    have := getD_set_true hi
    rw [getD_set _ _ _ _ _ (by rw [h.n3]; exact hc), if_neg (by omega)]
    exact (h.fit j hj q hq).ins k hk this.2
theorem Wt.clrS (h : Wt s L) (c : Nat) : Wt s (allOf (clrS c) L) := by
  refine ⟨h.n3, fun j hj => ?_, fun j hj p hp => ?_⟩
  · rw [h.rows j hj]; simp [allOf, Gr.clrS]
  · obtain ⟨q, hq, rfl⟩ := List.mem_map.1 hp
    exact (h.fit j hj q hq).clrS c
theorem quiet_busy (h : Wt s L) (hc : c < 3) (hd : 0 < s.deep.getD c 0) : s.quiet c = (s, 292) := by
  unfold St.quiet
  rw [if_pos (h.has hc), if_pos (show 0 < s.dp (c : Int) from hd)]
theorem late_false {e : Int} {l : List Rec} (hl : check l = 0) (h : lateRow e l = false) : ∀ x ∈ l, x.2 ≤ e := by
  intro x hx
  unfold lateRow at h
  cases hg : l.getLast? with
  | none => rw [List.getLast?_eq_none_iff] at hg; subst hg; cases hx
  | some y =>
    rw [hg] at h
    have hy : y.2 ≤ e := by simpa using h
    obtain ⟨i, hi, rfl⟩ := List.mem_iff_getElem.1 hx
    rw [List.getLast?_eq_getElem?] at hg
    obtain ⟨hlt, hy2⟩ := List.getElem?_eq_some_iff.1 hg
    have := chk_mono l 1 (check_zero.1 hl).2 i (l.length - 1) hi hlt (by omega)
    rw [hy2] at this
    omega
theorem Wt.quiet (h : Wt s L) (ho : Ok s E) (hc : c < 3) (hd : ¬ 0 < s.deep.getD c 0) : (s.quiet c).2 = 0 ∧ Wt (s.quiet c).1 (allOf (Gr.clrS c) L) := by
  have hn := h.n3
  have hcl := h.clrS c
  have hnl : s.needs.length = 3 := by rw [ho.nlen, hn]
  unfold St.quiet
  rw [if_pos (h.has hc), if_neg (show ¬ 0 < s.dp (c : Int) from hd)]
  by_cases hg : s.going = true
  · rw [if_pos hg]
    dsimp only
    have hnd : ∀ k, k < 3 → ∀ j, j < 3 → ∀ p ∈ allOf (Gr.clrS c) L j, p.1.2 ≤ s.ended + 1 → (p.2.1.getD k false = true ∨ p.2.2.getD k false = true) → (s.needs.set c false).getD k false = true := by
      intro k hk j hj p hp ha hi
      obtain ⟨q, hq, rfl⟩ := List.mem_map.1 hp
      have hf := h.fit j hj q hq
      have hkc : k ≠ c := by
        rintro rfl
        rcases hi with hi | hi
        · exact hd (hf.ins k hk hi)
        · exact (getD_set_true hi).1 rfl
      have hnk := hf.run hg ha k hk (hi.imp id (fun hi => (getD_set_true hi).2))
      rw [getD_set _ _ _ _ _ (by rw [hnl]; exact hc), if_neg (by omega)]
      exact hnk
    split
    · refine ⟨rfl, hn, hcl.rows, fun j hj p hp => ?_⟩
      have hf := hcl.fit j hj p hp
      exact ⟨hf.il, hf.sl, hf.at_, hf.ins, hf.old, fun _ ha k hk hi => hnd k hk j hj p hp ha hi⟩
    · rename_i hany
      have hno : ∀ k, (s.needs.set c false).getD k false = false := by
        intro k
        cases e : (s.needs.set c false).getD k false with
        | false => rfl
        | true =>
          refine absurd (List.any_eq_true.2 ⟨true, ?_, rfl⟩) hany
          rw [List.getD_eq_getElem?_getD] at e
          cases e2 : (s.needs.set c false)[k]? with
          | none => rw [e2] at e; cases e
          | some b => rw [e2] at e; simp at e; subst e; exact List.mem_of_getElem? e2
      have hoff : ∀ j, j < 3 → ∀ p ∈ allOf (Gr.clrS c) L j, p.1.2 ≤ s.ended + 1 → ∀ k, k < 3 → p.2.1.getD k false = false ∧ p.2.2.getD k false = false := by
        intro j hj p hp ha k hk
        constructor
        · cases e : p.2.1.getD k false with
          | false => rfl
          | true => have := hnd k hk j hj p hp ha (.inl e); rw [hno k] at this; cases this
        · cases e : p.2.2.getD k false with
          | false => rfl
          | true => have := hnd k hk j hj p hp ha (.inr e); rw [hno k] at this; cases this
      split
      · refine ⟨rfl, hn, hcl.rows, fun j hj p hp => ?_⟩
        have hf := hcl.fit j hj p hp
        refine ⟨hf.il, hf.sl, ?_, hf.ins, hoff j hj p hp, fun _ _ k hk _ => ?_⟩
        · have := hf.at_; rw [if_pos hg] at this; simp [St.begin]; omega
        · have : k = 0 ∨ k = 1 ∨ k = 2 := by omega
          rcases this with rfl | rfl | rfl <;> simp [St.begin, St.cpus, hn]
      · rename_i hl
        refine ⟨rfl, hn, hcl.rows, fun j hj p hp => ?_⟩
        have hf := hcl.fit j hj p hp
        refine ⟨hf.il, hf.sl, ?_, hf.ins, hoff j hj p hp, fun hh => by cases hh⟩
        have hrow : s.rows.getD j [] ∈ s.rows := getD_mem _ _ _ (by rw [ho.rlen, hn]; exact hj)
        have hlf : lateRow (s.ended + 1) (s.rows.getD j []) = false := by
          cases e : lateRow (s.ended + 1) (s.rows.getD j []) with
          | false => rfl
          | true => exact absurd (List.any_eq_true.2 ⟨_, hrow, e⟩) hl
        have := late_false (ho.rows _ hrow) hlf p.1 (by rw [hcl.rows j hj]; exact List.mem_map_of_mem hp)
        simpa using this
  · rw [if_neg hg]
    exact ⟨rfl, hcl⟩

def insOf (s : St) : List Bool := [decide (0 < s.deep.getD 0 0), decide (0 < s.deep.getD 1 0), decide (0 < s.deep.getD 2 0), false, false, false, false, false]
def silOf : List Bool := [true, true, true, false, false, false, false, false]
def notedOf (s : St) (id : Int) : Noted := ((id, s.callAt), (insOf s, silOf))
theorem Wt.begun (h : Wt s L) : Wt (if s.going then s else s.begin) L := by
  by_cases hg : s.going = true
  · rw [if_pos hg]; exact h
  · rw [if_neg hg]
    exact ⟨h.n3, h.rows, fun j hj p hp => (h.fit j hj p hp).begin (by simpa using hg) h.n3⟩
theorem fit_new (h : Wt s L) (id : Int) : Fit (if s.going then s else s.begin) (notedOf s id) := by
  have hins : ∀ k, k < 3 → (insOf s).getD k false = true → 0 < s.deep.getD k 0 := by
    intro k hk hi
    have : k = 0 ∨ k = 1 ∨ k = 2 := by omega
    rcases this with rfl | rfl | rfl <;> simpa [insOf] using hi
  by_cases hg : s.going = true
  · rw [if_pos hg]
    have hca : s.callAt = s.ended + 2 := by unfold St.callAt; rw [if_pos hg]
    refine ⟨rfl, rfl, ?_, hins, fun ha => ?_, fun _ ha => ?_⟩
    · show s.callAt ≤ s.ended + (if s.going then 2 else 0); rw [if_pos hg]; omega
    · have : s.callAt ≤ s.ended := ha; omega
    · have : s.callAt ≤ s.ended + 1 := ha; omega
  · rw [if_neg hg]
    have hca : s.callAt = s.ended + 1 := by unfold St.callAt; rw [if_neg hg]
    refine ⟨rfl, rfl, ?_, hins, fun ha => ?_, fun _ _ k hk _ => ?_⟩
    · show s.callAt ≤ _; rw [hca]; simp [St.begin]
    · have : s.callAt ≤ s.ended := ha; omega
    · have : k = 0 ∨ k = 1 ∨ k = 2 := by omega
      rcases this with rfl | rfl | rfl <;> simp [St.begin, St.cpus, h.n3]
theorem add_row {l : List Rec} {x : Rec} (h : (add l x).2 = 0) : (add l x).1 = l ++ [x] := by
  unfold add at h ⊢
  by_cases h1 : check l ≠ 0
  · rw [if_pos h1] at h; exact absurd h h1
  · rw [if_neg h1] at h ⊢
    by_cases h2 : l.length = 256
    · rw [if_pos h2] at h; exact absurd h (by decide)
    · rw [if_neg h2] at h ⊢
      by_cases h3 : check (l ++ [x]) ≠ 0
      · rw [if_pos h3] at h; exact absurd h h3
      · rw [if_neg h3]
/-- Call: all is as it was, or the record was added -/
theorem Wt.call (h : Wt s L) (ho : Ok s E) (hc : c < 3) (id : Int) : ((s.call c id).2 ≠ 0 ∧ Wt (s.call c id).1 L) ∨ ((s.call c id).2 = 0 ∧ Wt (s.call c id).1 (upd L c (L c ++ [notedOf s id]))) := by
  unfold St.call
  rw [if_pos (h.has hc)]
  split
  · exact .inl ⟨by simp, h⟩
  · split
    · exact .inl ⟨by simp, h⟩
    · dsimp only
      have hb := h.begun
      have hf := fit_new h id
      have hrl : (if s.going then s else s.begin).rows.length = 3 := by
        split
        · rw [ho.rlen, h.n3]
        · show s.rows.length = 3; rw [ho.rlen, h.n3]
      generalize (if s.going then s else s.begin) = t at hb hf hrl ⊢
      split
      · rename_i h0
        refine .inr ⟨rfl, hb.n3, fun j hj => ?_, fun j hj p hp => ?_⟩
        · show (t.rows.set _ _).getD j [] = _
          rw [getD_set _ _ _ _ _ (by rw [hrl]; simpa using hc)]
          have hadd : (add (s.row c) (id, s.callAt)).1 = s.row c ++ [(id, s.callAt)] := add_row h0
          rw [hadd]
          unfold upd
          by_cases e : j = c
          · subst e
            rw [if_pos (by simp), if_pos rfl, List.map_append]
            have : s.row j = (L j).map (·.1) := h.rows j hj
            rw [this]; rfl
          · rw [if_neg (by simp; omega), if_neg e]
            exact hb.rows j hj
        · unfold upd at hp
          by_cases e : j = c
          · rw [if_pos e] at hp
            rcases List.mem_append.1 hp with hp | hp
            · exact (hb.fit c hc p hp).rows _
            · rw [List.mem_singleton.1 hp]; exact hf.rows _
          · rw [if_neg e] at hp
            exact (hb.fit j hj p hp).rows _
      · rename_i h0
        exact .inl ⟨h0, hb⟩
/-- Poll: the beginning of the row, whose notes all say that nobody is waited for -/
theorem Wt.poll (h : Wt s L) (ho : Ok s E) (hc : c < 3) : ∃ p, p ≤ (L c).length ∧ s.poll c = ((s.poll c).1, ((L c).take p).map (·.1.1), 0) ∧ Wt (s.poll c).1 (upd L c ((L c).drop p)) ∧
    ∀ q ∈ (L c).take p, ∀ k, k < 3 → q.2.1.getD k false = false ∧ q.2.2.getD k false = false := by
  have hrow : s.row c = (L c).map (·.1) := h.rows c hc
  have hck : check (s.row c) = 0 := ho.row c (by rw [h.n3]; exact hc)
  obtain ⟨p, hp, hids, hrest, hlo, -⟩ := cut_facts (s.row c) s.ended hck
  have hpl : p ≤ (L c).length := by rw [hrow] at hp; simpa using hp
  have e : s.poll c = ({ s with rows := s.rows.set c (readyRest (s.row c) s.ended) }, readyIds (s.row c) s.ended, 0) := by
    unfold St.poll
    rw [if_pos (h.has hc), if_neg (by rw [hck]; simp)]
    rfl
  rw [e]
  refine ⟨p, hpl, ?_, ⟨h.n3, fun j hj => ?_, fun j hj q hq => ?_⟩, fun q hq k hk => ?_⟩
  · rw [hids, hrow, ← List.map_take, List.map_map]; rfl
  · show (s.rows.set _ _).getD j [] = _
    rw [getD_set _ _ _ _ _ (by rw [ho.rlen, h.n3]; exact hc)]
    unfold upd
    by_cases ej : j = c
    · subst ej
      rw [if_pos rfl, if_pos rfl, hrest, hrow, List.map_drop]
    · rw [if_neg (by omega), if_neg ej]; exact h.rows j hj
  · unfold upd at hq
    by_cases ej : j = c
    · rw [if_pos ej] at hq
      exact (h.fit c hc q (List.mem_of_mem_drop hq)).rows _
    · rw [if_neg ej] at hq
      exact (h.fit j hj q hq).rows _
  · obtain ⟨i, hi, rfl⟩ := List.mem_iff_getElem.1 hq
    have hi2 : i < p ∧ i < (L c).length := by rw [List.length_take] at hi; omega
    rw [List.getElem_take]
    refine (h.fit c hc _ (List.getElem_mem hi2.2)).old ?_ k hk
    have := hlo i (by rw [hrow]; simpa using hi2.2) hi2.1
    simpa [hrow] using this
theorem wt_new : Wt (new 3) (fun _ => []) := ⟨rfl, fun c hc => by
  have : c = 0 ∨ c = 1 ∨ c = 2 := by omega
  rcases this with rfl | rfl | rfl <;> rfl, fun c _ p hp => by cases hp⟩
end
end Go.Proofs.Ytkkbgohijokbhaa.Gr
