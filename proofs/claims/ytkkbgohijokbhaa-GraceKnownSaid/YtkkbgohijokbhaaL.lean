/- works (layer 9): the chapter's rows. -/
import Derived.Test.YtkkbgohijokbhaaK
namespace Go.Proofs.Ytkkbgohijokbhaa
open Go.RowKit

theorem add_at (r : List Gr.Rec) (E : Int) (A : Option Addr) (n c : Nat) (l : List Gr.Rec) (i t : Int) (w : World) (h : RD w A n l) (hm : n ≤ maxLen) (hE : Gr.add l (i, t) = (r, E)) :
    Calls Try.prog 13 #[.slice A n c, .agg #[.int .i64 i, .int .i64 t]] w fun e w' => ∃ v, e = .returned (.tuple #[v, .int .i64 E]) ∧ IsRow w' w.heap.size v r ∧ Below w.heap.size w w' := by
  have := add_any A n c l i t w h hm
  unfold AddTo at this
  rw [hE] at this
  exact this
theorem radd_at (r : List Gr.Rec) (E : Int) (A : Option Addr) (n c : Nat) (l : List Gr.Rec) (i t : Int) (w : World) (h : RD w A n l) (hm : n ≤ maxLen) (hE : Gr.add l (i, t) = (r, E)) :
    Calls Try.prog 14 #[.slice A n c, .agg #[.int .i64 i, .int .i64 t]] w fun e w' => ∃ v, e = .returned (.tuple #[v, .int .i64 E]) ∧ IsRow w' w.heap.size v r ∧ Below w.heap.size w w' := by
  have := radd_any A n c l i t w h hm
  unfold AddTo at this
  rw [hE] at this
  exact this

/-- Ready's three answers, whatever they are -/
def readyAns (l : List Gr.Rec) (d : Int) : List Int × List Gr.Rec × Int := if Gr.check l = 0 then (Gr.readyIds l d, Gr.readyRest l d, 0) else ([], [], Gr.check l)
def ReadyIs (ids : List Int) (rest : List Gr.Rec) (E : Int) (w : World) (e : Ending) (w' : World) : Prop :=
  ∃ v u, e = .returned (.tuple #[v, u, .int .i64 E]) ∧ IsInts w' w.heap.size v ids ∧ IsRow w' w.heap.size u rest ∧ Below w.heap.size w w'
theorem readyTo_is {l : List Gr.Rec} {d : Int} {ids : List Int} {rest : List Gr.Rec} {E : Int} (hE : readyAns l d = (ids, rest, E)) {w : World} {e : Ending} {w' : World} (h : ReadyTo l d w e w') : ReadyIs ids rest E w e w' := by
  unfold ReadyTo at h
  unfold readyAns at hE
  by_cases h0 : Gr.check l = 0
  · rw [if_pos h0] at h hE
    cases hE
    exact h
  · rw [if_neg h0] at h hE
    cases hE
    exact ⟨_, _, h.1, IsInts.nil _ _, IsRow.nil _ _, h.2⟩
theorem ready_at (ids : List Int) (rest : List Gr.Rec) (E : Int) (A : Option Addr) (n c : Nat) (l : List Gr.Rec) (d : Int) (w : World) (h : RD w A n l) (hm : n ≤ maxLen) (hE : readyAns l d = (ids, rest, E)) :
    Calls Try.prog 21 #[.slice A n c, .int .i64 d] w (ReadyIs ids rest E w) := (ready_any A n c l d w h hm).mono fun _ _ h => readyTo_is hE h
theorem rready_at (ids : List Int) (rest : List Gr.Rec) (E : Int) (A : Option Addr) (n c : Nat) (l : List Gr.Rec) (d : Int) (w : World) (h : RD w A n l) (hc : n ≤ c) (hm : n ≤ maxLen) (hE : readyAns l d = (ids, rest, E)) :
    Calls Try.prog 22 #[.slice A n c, .int .i64 d] w (ReadyIs ids rest E w) := (rready_any A n c l d w h hc hm).mono fun _ _ h => readyTo_is hE h
theorem next_at (E : Int) (A : Option Addr) (n c : Nat) (l : List Gr.Rec) (w : World) (h : RD w A n l) (hm : n ≤ maxLen) (hE : Gr.next l = E) :
    Calls Try.prog 17 #[.slice A n c] w fun e w' => e = .returned (.int .i64 E) ∧ Below w.heap.size w w' := by
  subst hE; exact next_any A n c l w h hm
theorem eqints_at (E : Bool) (A B : Option Addr) (n c m d : Nat) (l r : List Int) (w : World) (hl : RI w A n l) (hr : RI w B m r) (hn : n ≤ maxLen) (hm : m ≤ maxLen) (hE : decide (l = r) = E) :
    Calls Try.prog 23 #[.slice A n c, .slice B m d] w fun e w' => e = .returned (.bool E) ∧ Below w.heap.size w w' := by
  subst hE; exact eqints_any A B n c m d l r w hl hr hn hm
theorem same_at (E : Bool) (A B : Option Addr) (n c m d : Nat) (l r : List Gr.Rec) (w : World) (hl : RD w A n l) (hr : RD w B m r) (hn : n ≤ maxLen) (hm : m ≤ maxLen) (hE : decide (l = r) = E) :
    Calls Try.prog 19 #[.slice A n c, .slice B m d] w fun e w' => e = .returned (.bool E) ∧ Below w.heap.size w w' := by
  subst hE; exact same_any A B n c m d l r w hl hr hn hm

theorem RD.get {w : World} {n : Nat} {A : Option Addr} {l : List Gr.Rec} (h : RD w A n l) (k : Nat) (x : Gr.Rec) (hx : l[k]? = some x) : ∃ b o, A = some ⟨b, o, none⟩ ∧ b < w.heap.size ∧ w.cell? ⟨b, o + k * 2, none⟩ = some (.int .i64 x.1) ∧ w.cell? ⟨b, o + k * 2 + 1, none⟩ = some (.int .i64 x.2) := by
  obtain ⟨hk, rfl⟩ := List.getElem?_eq_some_iff.1 hx
  exact h.at_ (by rw [h.1]; exact hk)
/-- a literal row of records -/
theorem rd_cells (w : World) (g : Nat) (l : List Gr.Rec) (h : w.heap[g]? = some (.cells (cellsR l).toArray 24 (0, 0))) : RD w (some ⟨g, 0, none⟩) l.length l := by
  refine ⟨rfl, by rw [cellsR_length], fun _ => ⟨g, 0, rfl, (Array.getElem?_eq_some_iff.1 h).1, fun j u hu => ?_⟩⟩
  rw [Nat.zero_add, cell_of_row w g j _ 24 (0, 0) h]
  simpa using hu
theorem ri_cells (w : World) (g : Nat) (l : List Int) (h : w.heap[g]? = some (.cells (cellsI l).toArray 3 (0, 0))) : RI w (some ⟨g, 0, none⟩) l.length l := by
  refine ⟨rfl, by simp [cellsI], fun _ => ⟨g, 0, rfl, (Array.getElem?_eq_some_iff.1 h).1, fun j u hu => ?_⟩⟩
  rw [Nat.zero_add, cell_of_row w g j _ 3 (0, 0) h]
  simpa using hu

set_option maxHeartbeats 3200000 in
set_option maxRecDepth 100000 in
theorem works_any (w : World) : Calls Try.prog 20 #[] w fun e w' => e = .returned (.bool true) ∧ Below w.heap.size w w' := by
  go_enter Try.func20, Try.ntmps20
  go_wp2_with fail
  refine (add_at [(5, 1), (6, 1)] 0 _ 1 1 [(5, 1)] 6 1 _ (rd_cells _ w.heap.size [(5, 1)] (heap_alloc_new w _)) (by unfold maxLen; omega) (by decide)).mono ?_
  rintro e w1 ⟨v1, rfl, ⟨A1, N1, c1, rfl, hc1, hm1, hr1⟩, hb1⟩
  obtain rfl : N1 = 2 := hr1.1
  have HR1 := hid hr1
  have HB1 : Hid (Below w.heap.size w w1) := hid (((Below.refl w.heap.size w).alloc (Nat.le_refl _) _).trans (hb1.mono (by simp)))
  clear hr1 hb1
  go_wp2_with fail
  refine (add_at [] 2 _ 1 1 [(5, 2)] 6 1 _ (rd_cells _ w1.heap.size [(5, 2)] (heap_alloc_new w1 _)) (by unfold maxLen; omega) (by decide)).mono ?_
  rintro e w2 ⟨v2, rfl, ⟨A2, N2, c2, rfl, hc2, hm2, hr2⟩, hb2⟩
  obtain rfl : N2 = 0 := hr2.1
  have HB2 : Hid (Below w1.heap.size w1 w2) := hid (((Below.refl w1.heap.size w1).alloc (Nat.le_refl _) _).trans (hb2.mono (by simp)))
  clear hr2 hb2
  go_wp2_with fail
  refine (ready_at [5, 6] [(7, 2)] 0 _ 3 3 [(5, 1), (6, 1), (7, 2)] 1 _ (rd_cells _ w2.heap.size [(5, 1), (6, 1), (7, 2)] (heap_alloc_new w2 _)) (by unfold maxLen; omega) (by decide)).mono ?_
  rintro e w3 ⟨v3, u3, rfl, hi3, ⟨A3, N3, c3, rfl, hc3, hm3, hr3⟩, hb3⟩
  obtain rfl : N3 = 1 := hr3.1
  obtain ⟨A4, N4, c4, rfl, hN4, hc4, hm4, hr4⟩ := hi3.ri
  obtain rfl : N4 = 2 := hN4
  have HB3 : Hid (Below w2.heap.size w2 w3) := hid (((Below.refl w2.heap.size w2).alloc (Nat.le_refl _) _).trans (hb3.mono (by simp)))
  have HBA := hid (below_trans' HB2.out HB3.out)
  have hr1' := (HR1.out.below HBA.out).rd
  have hr3' := hr3.rd
  obtain ⟨b1, o1, rfl, hbo1, _, _⟩ := hr1'.get 0 (5, 1) rfl
  obtain ⟨b1', o1', he1, _, k1, _⟩ := hr1'.get 1 (6, 1) rfl
  simp only [Option.some.injEq, Addr.mk.injEq, and_true] at he1
  obtain ⟨rfl, rfl⟩ := he1
  obtain ⟨b3, o3, rfl, hbo3, k3, _⟩ := hr3'.get 0 (7, 2) rfl
  simp at k1 k3
  have HR3 := hid hr3'; have HR4 := hid hr4
  have hblt : b3 < w3.heap.size := hbo3
  clear hr1' hr3' hr3 hr4 hb3 hi3
  go_wp2_with fail
  refine (eqints_at true _ _ 2 _ 2 2 [5, 6] [5, 6] _ ((HR4.out : RI w3 A4 2 [5, 6]).below ((Below.refl _ _).alloc (Nat.le_refl _) _)) (ri_cells _ w3.heap.size [5, 6] (heap_alloc_new w3 _)) (by unfold maxLen; omega) (by unfold maxLen; omega) (by decide)).mono ?_
  rintro e w4 ⟨rfl, hb4⟩
  have HB4 : Hid (Below w3.heap.size w3 w4) := hid (((Below.refl w3.heap.size w3).alloc (Nat.le_refl _) _).trans (hb4.mono (by simp)))
  have k4 := (HB4.out.cell (p := ⟨b3, o3, none⟩) hblt).trans k3
  clear hb4
  go_wp2_with fail
  refine (next_at 2 _ 1 c3 [(7, 2)] _ (HR3.out.below HB4.out) (by unfold maxLen; omega) (by decide)).mono ?_
  rintro e w5 ⟨rfl, hb5⟩
  have HB5 := hid hb5; clear hb5
  go_wp2_with fail
  go_ret
  exact ⟨rfl, below_trans' HB1.out (below_trans' HBA.out (below_trans' HB4.out HB5.out))⟩
end Go.Proofs.Ytkkbgohijokbhaa
