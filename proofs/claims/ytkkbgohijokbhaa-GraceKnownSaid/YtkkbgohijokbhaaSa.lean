/- Bring; both machines together. -/
import Derived.Test.YtkkbgohijokbhaaRf
namespace Go.Proofs.Ytkkbgohijokbhaa
open Go.RowKit

theorem bring_eq (x m : Int) (hm : 0 < m) : (0 ≤ x.tmod m → x.tmod m = x % m) ∧ (x.tmod m < 0 → x.tmod m + m = x % m) := by
  have h1 := Int.emod_nonneg x (show m ≠ 0 by omega)
  have h2 := Int.emod_lt_of_pos x hm
  have h3 : (m.natAbs : Int) = m := Int.natAbs_of_nonneg (by omega)
  have h4 := Int.tmod_eq_emod (a := x) (b := m)
  by_cases hc : 0 ≤ x ∨ m ∣ x
  · rw [if_pos hc] at h4
    constructor <;> intro h <;> omega
  · rw [if_neg hc] at h4
    constructor <;> intro h <;> omega
theorem bring_any (x m : Int) (hm : 0 < m) (hm2 : m ≤ 1000000) (w : World) : Calls Try.prog 41 #[.int .i64 x, .int .i64 m] w fun e w' => e = .returned (.int .i64 (x % m)) ∧ w = w' := by
  have h1 : x.tmod m < m := Int.tmod_lt_of_pos _ hm
  have h2 : -m < x.tmod m := Int.lt_tmod_of_pos _ hm
  have h3 : ¬ m = 0 := by omega
  have HE := hid (bring_eq x m hm)
  have hb : (m == 0) = false := by rw [beq_eq_false_iff_ne]; exact h3
  go_enter Try.func41, Try.ntmps41
  go_wp2
  · go_ret
    exact ⟨ret_int (HE.out.2 (by assumption)), rfl⟩
  · go_ret
    exact ⟨ret_int (HE.out.1 (by assumption)), rfl⟩

/-- both machines, in a world that began as w0 -/
structure Play (w0 w : World) (g m d r q : Nat) (s t : Gr.St) : Prop where
  G : GRep w g s
  R : RRep w m d r q t
  B : Below w0.heap.size w0 w
  new : w0.heap.size ≤ g ∧ w0.heap.size ≤ m ∧ w0.heap.size ≤ d ∧ w0.heap.size ≤ r ∧ w0.heap.size ≤ q
section
variable {w0 w w' : World} {g m d r q : Nat} {s t s' t' : Gr.St}
theorem RRep.types5 (h : RRep w m d r q s) : ∀ b ∈ [m, d, r, q], ∃ t' cs', Blk w b t' cs' ∧ t' ≠ 24 ∧ t' ≠ 63 ∧ t' ≠ 48 := by
  obtain ⟨hm, hd, ⟨cs, hb, _⟩, hq⟩ := h
  intro b hb'
  simp only [List.mem_cons, List.not_mem_nil, or_false] at hb'
  rcases hb' with rfl | rfl | rfl | rfl
  · exact ⟨_, _, hm, by decide, by decide, by decide⟩
  · exact ⟨_, _, hd, by decide, by decide, by decide⟩
  · exact ⟨_, _, hb, by decide, by decide, by decide⟩
  · exact ⟨_, _, hq, by decide, by decide, by decide⟩
theorem GRep.types (h : GRep w g s) : ∀ b ∈ [g], ∃ t' cs', Blk w b t' cs' ∧ t' = 63 := fun b hb => by
  simp at hb
  subst hb
  obtain ⟨cs, hc⟩ := h.blk
  exact ⟨63, cs, hc, rfl⟩
theorem Play.stepG (h : Play w0 w g m d r q s t) (hG : GRep w' g s') (hF : Fr [g] w w') : Play w0 w' g m d r q s' t :=
  ⟨hG, h.R.fr hF (fun b hb => by obtain ⟨t, cs, hc, rfl⟩ := h.G.types b hb; exact ⟨63, cs, hc, by decide, by decide, by decide, by decide, by decide⟩),
    h.B.trans (hF.below h.B.size (fun k hk => by simp at hk; subst hk; exact h.new.1)), h.new⟩
theorem Play.stepR (h : Play w0 w g m d r q s t) (hR : RRep w' m d r q t') (hF : Fr [m, d, r, q] w w') : Play w0 w' g m d r q s t' :=
  ⟨h.G.fr hF (fun b hb => by obtain ⟨t, cs, hc, h1, h2, _⟩ := h.R.types5 b hb; exact ⟨t, cs, hc, h1, h2⟩), hR,
    h.B.trans (hF.below h.B.size (fun k hk => by
      simp only [List.mem_cons, List.not_mem_nil, or_false] at hk
      rcases hk with rfl | rfl | rfl | rfl
      · exact h.new.2.1
      · exact h.new.2.2.1
      · exact h.new.2.2.2.1
      · exact h.new.2.2.2.2)), h.new⟩
theorem Play.below (h : Play w0 w g m d r q s t) (hb : Below w.heap.size w w') : Play w0 w' g m d r q s t := ⟨h.G.below hb, h.R.below hb, h.B.trans (hb.mono h.B.size), h.new⟩
theorem Play.drew (h : Play w0 w g m d r q s t) : Play w0 w.drew g m d r q s t := ⟨h.G, h.R.drew, h.B.drew, h.new⟩
theorem Play.drewN (h : Play w0 w g m d r q s t) (n : Nat) : Play w0 (w.drewN n) g m d r q s t := ⟨h.G, h.R.drewN n, below_drewN h.B n, h.new⟩
end

/-- the cells of a Do that lies in a box -/
def Box (w : World) (b : Nat) (o c i : Int) : Prop := Blk w b 48 #[.int .i64 o, .int .i64 c, .int .i64 i]
theorem Box.c1 {w : World} {b : Nat} {o c i : Int} (h : Box w b o c i) : w.cell? ⟨b, 1, none⟩ = some (.int .i64 c) := (Blk.cell h 1).trans rfl
theorem Box.c2 {w : World} {b : Nat} {o c i : Int} (h : Box w b o c i) : w.cell? ⟨b, 2, none⟩ = some (.int .i64 i) := (Blk.cell h 2).trans rfl
theorem Box.c0 {w : World} {b : Nat} {o c i : Int} (h : Box w b o c i) : w.cell? ⟨b, 0, none⟩ = some (.int .i64 o) := (Blk.cell h 0).trans rfl

/-- behind a call of one of the machines -/
def Plays (w0 : World) (b : Nat) (o c i : Int) (g m d r q : Nat) (s t : Gr.St) (E : Int) (e : Ending) (w' : World) : Prop :=
  e = .returned (.int .i64 E) ∧ Hid (Play w0 w' g m d r q s t) ∧ Hid (Box w' b o c i) ∧ (w'.cell? ⟨b, 1, none⟩ = some (.int .i64 c) ∧ w'.cell? ⟨b, 2, none⟩ = some (.int .i64 i))
theorem plays_g {w0 w : World} {b : Nat} {o c i : Int} {g m d r q : Nat} {s t : Gr.St} {x : Gr.St × Int} (h : Play w0 w g m d r q s t) (hb : Box w b o c i) {e : Ending} {w' : World} (hg : Goes w g x e w') : Plays w0 b o c i g m d r q x.1 t x.2 e w' := by
  obtain ⟨he, hG, hF⟩ := hg
  have hb' : Box w' b o c i := Blk.fr hb hF (fun b hb => by obtain ⟨t, cs, hc, rfl⟩ := h.G.types b hb; exact ⟨63, cs, hc, by decide⟩)
  exact ⟨he, hid (h.stepG hG hF), hid hb', hb'.c1, hb'.c2⟩
theorem plays_r {w0 w : World} {b : Nat} {o c i : Int} {g m d r q : Nat} {s t : Gr.St} {x : Gr.St × Int} (h : Play w0 w g m d r q s t) (hb : Box w b o c i) {e : Ending} {w' : World} (hg : RGoes w m d r q x e w') : Plays w0 b o c i g m d r q s x.1 x.2 e w' := by
  obtain ⟨he, hR, hF⟩ := hg
  have hb' : Box w' b o c i := Blk.fr hb hF (fun b hb => by obtain ⟨t, cs, hc, h1, h2, h3⟩ := h.R.types5 b hb; exact ⟨t, cs, hc, h3⟩)
  exact ⟨he, hid (h.stepR hR hF), hid hb', hb'.c1, hb'.c2⟩

section
variable {w0 w : World} {b : Nat} {o c i : Int} {g m d r q : Nat} {s t : Gr.St} {E : Int}
theorem lock_play (h : Play w0 w g m d r q s t) (hb : Box w b o c i) (ho : Gr.Ok s E) : Calls Try.prog 31 #[.pointer (some ⟨g, 0, none⟩), .int .i64 c] w (Plays w0 b o c i g m d r q (s.lock c).1 t (s.lock c).2) := (lock_any g s E c w h.G ho).mono fun _ _ h' => plays_g h hb h'
theorem unlock_play (h : Play w0 w g m d r q s t) (hb : Box w b o c i) (ho : Gr.Ok s E) : Calls Try.prog 32 #[.pointer (some ⟨g, 0, none⟩), .int .i64 c] w (Plays w0 b o c i g m d r q (s.unlock c).1 t (s.unlock c).2) := (unlock_any g s E c w h.G ho).mono fun _ _ h' => plays_g h hb h'
theorem quiet_play (h : Play w0 w g m d r q s t) (hb : Box w b o c i) (ho : Gr.Ok s E) (hE : E ≤ 1000000) : Calls Try.prog 33 #[.pointer (some ⟨g, 0, none⟩), .int .i64 c] w (Plays w0 b o c i g m d r q (s.quiet c).1 t (s.quiet c).2) := (quiet_any g s E c w h.G ho hE).mono fun _ _ h' => plays_g h hb h'
theorem call_play (h : Play w0 w g m d r q s t) (hb : Box w b o c i) (ho : Gr.Ok s E) (hE : E ≤ 1000000) : Calls Try.prog 34 #[.pointer (some ⟨g, 0, none⟩), .int .i64 c, .int .i64 i] w (Plays w0 b o c i g m d r q (s.call c i).1 t (s.call c i).2) := (call_any g s E c i w h.G ho hE).mono fun _ _ h' => plays_g h hb h'
theorem rlock_play (h : Play w0 w g m d r q s t) (hb : Box w b o c i) (ho : Gr.Ok t E) : Calls Try.prog 42 #[.pointer (some ⟨m, 0, none⟩), .int .i64 c] w (Plays w0 b o c i g m d r q s (t.lock c).1 (t.lock c).2) := (rlock_any m d r q t E c w h.R ho).mono fun _ _ h' => plays_r h hb h'
theorem runlock_play (h : Play w0 w g m d r q s t) (hb : Box w b o c i) (ho : Gr.Ok t E) : Calls Try.prog 43 #[.pointer (some ⟨m, 0, none⟩), .int .i64 c] w (Plays w0 b o c i g m d r q s (t.unlock c).1 (t.unlock c).2) := (runlock_any m d r q t E c w h.R ho).mono fun _ _ h' => plays_r h hb h'
theorem rquiet_play (h : Play w0 w g m d r q s t) (hb : Box w b o c i) (ho : Gr.Ok t E) (hE : E ≤ 1000000) : Calls Try.prog 44 #[.pointer (some ⟨m, 0, none⟩), .int .i64 c] w (Plays w0 b o c i g m d r q s (t.quiet c).1 (t.quiet c).2) := (rquiet_any m d r q t E c w h.R ho hE).mono fun _ _ h' => plays_r h hb h'
theorem rcall_play (h : Play w0 w g m d r q s t) (hb : Box w b o c i) (ho : Gr.Ok t E) (hE : E ≤ 1000000) : Calls Try.prog 45 #[.pointer (some ⟨m, 0, none⟩), .int .i64 c, .int .i64 i] w (Plays w0 b o c i g m d r q s (t.call c i).1 (t.call c i).2) := (rcall_any m d r q t E c i w h.R ho hE).mono fun _ _ h' => plays_r h hb h'
end

/-- the pure step -/
def stepTo (s : Gr.St) (o c i : Int) : Gr.St := if o % 5 = 0 then (s.lock c).1 else if o % 5 = 1 then (s.unlock c).1 else if o % 5 = 2 then (s.quiet c).1 else if o % 5 = 3 then (s.call c i).1 else (s.poll c).1
theorem stepTo_ok {s : Gr.St} {E : Int} (h : Gr.Ok s E) (o c i : Int) : Gr.Ok (stepTo s o c i) (E + 1) := by
  unfold stepTo
  split
  · exact (h.lock_ c).mono (by omega)
  · split
    · exact (h.unlock_ c).mono (by omega)
    · split
      · exact h.quiet_ c
      · split
        · exact (h.call_ c i).mono (by omega)
        · exact (h.poll_ c).mono (by omega)

/-- what a step comes to -/
def Steps (w0 : World) (g m d r q : Nat) (s : Gr.St) (e : Ending) (w' : World) : Prop := e = .returned (.bool true) ∧ Play w0 w' g m d r q s s

end Go.Proofs.Ytkkbgohijokbhaa
