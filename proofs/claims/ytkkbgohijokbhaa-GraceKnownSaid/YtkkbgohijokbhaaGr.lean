/- THE PURE SIDE: rows of records (chapter 9) and the machine of grace periods (chapter 10), as plain functions; no program in sight. -/
namespace Go.Proofs.Ytkkbgohijokbhaa.Gr

/-- a record: its number, the grace period that it waits for -/
abbrev Rec := Int × Int

def okRec (last : Int) (x : Rec) : Bool := decide (0 ≤ x.1) && decide (x.1 ≤ 9007199254740991) && decide (last ≤ x.2) && decide (x.2 ≤ 9007199254740991)
def chk : Int → List Rec → Bool
  | _, [] => true
  | last, x :: l => okRec last x && chk x.2 l
def check (l : List Rec) : Int := if 256 < l.length then 5 else if chk 1 l then 0 else 2
def add (l : List Rec) (x : Rec) : List Rec × Int :=
  if check l ≠ 0 then ([], check l) else if l.length = 256 then ([], 5) else if check (l ++ [x]) ≠ 0 then ([], check (l ++ [x])) else (l ++ [x], 0)
def readyIds (l : List Rec) (done : Int) : List Int := (l.takeWhile fun x => decide (x.2 ≤ done)).map (·.1)
def readyRest (l : List Rec) (done : Int) : List Rec := l.dropWhile fun x => decide (x.2 ≤ done)
def next (l : List Rec) : Int := if check l ≠ 0 then 0 else match l with | [] => 0 | x :: _ => x.2

/-- a machine -/
structure St where
  deep : List Int
  rows : List (List Rec)
  ended : Int
  going : Bool
  needs : List Bool

def new (n : Nat) : St := { deep := List.replicate n 0, rows := List.replicate n [], ended := 0, going := false, needs := List.replicate n false }

def St.cpus (s : St) : Nat := s.deep.length
def St.has (s : St) (c : Int) : Bool := decide (0 ≤ c) && decide (c < s.cpus)
def St.dp (s : St) (c : Int) : Int := s.deep.getD c.toNat 0
def St.row (s : St) (c : Int) : List Rec := s.rows.getD c.toNat []
def St.nd (s : St) (c : Int) : Bool := s.needs.getD c.toNat false

def St.lock (s : St) (c : Int) : St × Int :=
  if s.has c then if s.dp c = 8 then (s, 5) else ({ s with deep := s.deep.set c.toNat (s.dp c + 1) }, 0) else (s, 9)
def St.unlock (s : St) (c : Int) : St × Int :=
  if s.has c then if s.dp c = 0 then (s, 292) else ({ s with deep := s.deep.set c.toNat (s.dp c - 1) }, 0) else (s, 9)
def St.begin (s : St) : St := { s with going := true, needs := List.replicate s.cpus true }
/-- the last record of a row waits for more than has ended -/
def lateRow (ended : Int) (l : List Rec) : Bool := match l.getLast? with | some x => decide (ended < x.2) | none => false
def St.later (s : St) : Bool := s.rows.any (lateRow s.ended)
def St.callAt (s : St) : Int := if s.going then s.ended + 2 else s.ended + 1
def St.call (s : St) (c id : Int) : St × Int :=
  if s.has c then
    if id < 0 ∨ 9007199254740991 < id then (s, 2)
    else if (s.row c).length = 256 then (s, 5)
    else
      let t := if s.going then s else s.begin
      let r := add (s.row c) (id, s.callAt)
      if r.2 = 0 then ({ t with rows := t.rows.set c.toNat r.1 }, 0) else (t, r.2)
  else (s, 9)
def St.quiet (s : St) (c : Int) : St × Int :=
  if s.has c then
    if 0 < s.dp c then (s, 292)
    else if s.going then
      let t := { s with needs := s.needs.set c.toNat false }
      if t.needs.any id then (t, 0)
      else
        let u := { t with going := false, ended := s.ended + 1 }
        (if u.later then u.begin else u, 0)
    else (s, 0)
  else (s, 9)
def St.poll (s : St) (c : Int) : St × List Int × Int :=
  if s.has c then
    if check (s.row c) ≠ 0 then (s, [], check (s.row c))
    else ({ s with rows := s.rows.set c.toNat (readyRest (s.row c) s.ended) }, readyIds (s.row c) s.ended, 0)
  else (s, [], 9)


theorem okRec_iff {last : Int} {x : Rec} : okRec last x = true ↔ (0 ≤ x.1 ∧ x.1 ≤ 9007199254740991 ∧ last ≤ x.2 ∧ x.2 ≤ 9007199254740991) := by
  simp [okRec, and_assoc]
theorem okRec_not {last : Int} {x : Rec} (h : ¬ (0 ≤ x.1 ∧ x.1 ≤ 9007199254740991 ∧ last ≤ x.2 ∧ x.2 ≤ 9007199254740991)) : okRec last x = false := by
  cases e : okRec last x with
  | false => rfl
  | true => exact absurd (okRec_iff.1 e) h

/-- the last At, or what was before -/
def lastAt (last : Int) : List Rec → Int
  | [] => last
  | x :: l => lastAt x.2 l
theorem chk_append (l r : List Rec) : ∀ last, chk last (l ++ r) = (chk last l && chk (lastAt last l) r) := by
  induction l with
  | nil => intro last; simp [chk, lastAt]
  | cons x l ih => intro last; simp [chk, lastAt, ih, Bool.and_assoc]
theorem chk_le (l : List Rec) : ∀ last, chk last l = true → last ≤ lastAt last l := by
  induction l with
  | nil => intro last _; simp [lastAt]
  | cons x l ih =>
    intro last h
    simp only [chk, Bool.and_eq_true, okRec_iff] at h
    have := ih x.2 h.2
    simp only [lastAt]; omega
theorem chk_mem (l : List Rec) : ∀ last, chk last l = true → ∀ x ∈ l, last ≤ x.2 ∧ x.2 ≤ lastAt last l ∧ 0 ≤ x.1 ∧ x.1 ≤ 9007199254740991 ∧ x.2 ≤ 9007199254740991 := by
  induction l with
  | nil => intro last _ x hx; cases hx
  | cons y l ih =>
    intro last h x hx
    simp only [chk, Bool.and_eq_true, okRec_iff] at h
    have hl := chk_le l y.2 h.2
    cases List.mem_cons.1 hx with
    | inl e => subst e; simp only [lastAt]; omega
    | inr e => have := ih y.2 h.2 x e; simp only [lastAt]; omega
theorem check_zero {l : List Rec} : check l = 0 ↔ l.length ≤ 256 ∧ chk 1 l = true := by
  unfold check
  by_cases h : 256 < l.length
  · rw [if_pos h]; constructor
    · intro h'; omega
    · intro ⟨h', _⟩; omega
  · rw [if_neg h]; cases hc : chk 1 l with
    | true => simp; omega
    | false => simp
theorem check_vals (l : List Rec) : check l = 0 ∨ check l = 2 ∨ check l = 5 := by
  unfold check; split
  · omega
  · split <;> omega
theorem chk_weaken (l : List Rec) : ∀ a b, a ≤ b → chk b l = true → chk a l = true := by
  cases l with
  | nil => intro a b _ _; rfl
  | cons x l =>
    intro a b hab h
    simp only [chk, Bool.and_eq_true, okRec_iff] at h ⊢
    exact ⟨⟨h.1.1, h.1.2.1, by omega, h.1.2.2.2⟩, h.2⟩
theorem chk_tail {x : Rec} {l : List Rec} (h : chk 1 (x :: l) = true) : chk 1 l = true := by
  simp only [chk, Bool.and_eq_true, okRec_iff] at h
  exact chk_weaken l 1 x.2 (by omega) h.2
theorem chk_drop (l : List Rec) (p : Rec → Bool) : chk 1 l = true → chk 1 (l.dropWhile p) = true := by
  induction l with
  | nil => intro _; rfl
  | cons x l ih =>
    intro h
    rw [List.dropWhile_cons]
    split
    · exact ih (chk_tail h)
    · exact h
theorem length_dropWhile_le' {α : Type} (p : α → Bool) (l : List α) : (l.dropWhile p).length ≤ l.length := by
  induction l with
  | nil => simp
  | cons x l ih => rw [List.dropWhile_cons]; split <;> simp <;> omega
theorem check_ready (l : List Rec) (d : Int) (h : check l = 0) : check (readyRest l d) = 0 := by
  rw [check_zero] at h ⊢
  exact ⟨Nat.le_trans (length_dropWhile_le' _ _) h.1, chk_drop l _ h.2⟩
end Go.Proofs.Ytkkbgohijokbhaa.Gr
