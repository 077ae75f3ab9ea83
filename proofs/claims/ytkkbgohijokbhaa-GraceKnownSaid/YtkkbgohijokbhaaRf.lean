/- the reference's machine: New. -/
import Derived.Test.YtkkbgohijokbhaaRe
import Derived.BigRegion
namespace Go.Proofs.Ytkkbgohijokbhaa
open Go.RowKit

theorem mk34_0 (W : World) : (Instr.makeSlice 34 (.int .i64 0) (.int .i64 0)).run Try.prog W = .ok (.slice (some ⟨W.heap.size, 0, none⟩) 0 0) (W.alloc (.cells #[] 3)) := by kernel_rfl
theorem mk34_1 (W : World) : (Instr.makeSlice 34 (.int .i64 1) (.int .i64 1)).run Try.prog W = .ok (.slice (some ⟨W.heap.size, 0, none⟩) 1 1) (W.alloc (.cells #[.int .i64 0] 3)) := by kernel_rfl
theorem mk34_2 (W : World) : (Instr.makeSlice 34 (.int .i64 2) (.int .i64 2)).run Try.prog W = .ok (.slice (some ⟨W.heap.size, 0, none⟩) 2 2) (W.alloc (.cells #[.int .i64 0, .int .i64 0] 3)) := by kernel_rfl
theorem mk34_3 (W : World) : (Instr.makeSlice 34 (.int .i64 3) (.int .i64 3)).run Try.prog W = .ok (.slice (some ⟨W.heap.size, 0, none⟩) 3 3) (W.alloc (.cells #[.int .i64 0, .int .i64 0, .int .i64 0] 3)) := by kernel_rfl
theorem mk34_4 (W : World) : (Instr.makeSlice 34 (.int .i64 4) (.int .i64 4)).run Try.prog W = .ok (.slice (some ⟨W.heap.size, 0, none⟩) 4 4) (W.alloc (.cells #[.int .i64 0, .int .i64 0, .int .i64 0, .int .i64 0] 3)) := by kernel_rfl
theorem mk34_5 (W : World) : (Instr.makeSlice 34 (.int .i64 5) (.int .i64 5)).run Try.prog W = .ok (.slice (some ⟨W.heap.size, 0, none⟩) 5 5) (W.alloc (.cells #[.int .i64 0, .int .i64 0, .int .i64 0, .int .i64 0, .int .i64 0] 3)) := by kernel_rfl
theorem mk34_6 (W : World) : (Instr.makeSlice 34 (.int .i64 6) (.int .i64 6)).run Try.prog W = .ok (.slice (some ⟨W.heap.size, 0, none⟩) 6 6) (W.alloc (.cells #[.int .i64 0, .int .i64 0, .int .i64 0, .int .i64 0, .int .i64 0, .int .i64 0] 3)) := by kernel_rfl
theorem mk34_7 (W : World) : (Instr.makeSlice 34 (.int .i64 7) (.int .i64 7)).run Try.prog W = .ok (.slice (some ⟨W.heap.size, 0, none⟩) 7 7) (W.alloc (.cells #[.int .i64 0, .int .i64 0, .int .i64 0, .int .i64 0, .int .i64 0, .int .i64 0, .int .i64 0] 3)) := by kernel_rfl
theorem mk34_8 (W : World) : (Instr.makeSlice 34 (.int .i64 8) (.int .i64 8)).run Try.prog W = .ok (.slice (some ⟨W.heap.size, 0, none⟩) 8 8) (W.alloc (.cells #[.int .i64 0, .int .i64 0, .int .i64 0, .int .i64 0, .int .i64 0, .int .i64 0, .int .i64 0, .int .i64 0] 3)) := by kernel_rfl
theorem mk76_0 (W : World) : (Instr.makeSlice 76 (.int .i64 0) (.int .i64 0)).run Try.prog W = .ok (.slice (some ⟨W.heap.size, 0, none⟩) 0 0) (W.alloc (.cells #[] 22)) := by kernel_rfl
theorem mk76_1 (W : World) : (Instr.makeSlice 76 (.int .i64 1) (.int .i64 1)).run Try.prog W = .ok (.slice (some ⟨W.heap.size, 0, none⟩) 1 1) (W.alloc (.cells #[.slice none 0 0] 22)) := by kernel_rfl
theorem mk76_2 (W : World) : (Instr.makeSlice 76 (.int .i64 2) (.int .i64 2)).run Try.prog W = .ok (.slice (some ⟨W.heap.size, 0, none⟩) 2 2) (W.alloc (.cells #[.slice none 0 0, .slice none 0 0] 22)) := by kernel_rfl
theorem mk76_3 (W : World) : (Instr.makeSlice 76 (.int .i64 3) (.int .i64 3)).run Try.prog W = .ok (.slice (some ⟨W.heap.size, 0, none⟩) 3 3) (W.alloc (.cells #[.slice none 0 0, .slice none 0 0, .slice none 0 0] 22)) := by kernel_rfl
theorem mk76_4 (W : World) : (Instr.makeSlice 76 (.int .i64 4) (.int .i64 4)).run Try.prog W = .ok (.slice (some ⟨W.heap.size, 0, none⟩) 4 4) (W.alloc (.cells #[.slice none 0 0, .slice none 0 0, .slice none 0 0, .slice none 0 0] 22)) := by kernel_rfl
theorem mk76_5 (W : World) : (Instr.makeSlice 76 (.int .i64 5) (.int .i64 5)).run Try.prog W = .ok (.slice (some ⟨W.heap.size, 0, none⟩) 5 5) (W.alloc (.cells #[.slice none 0 0, .slice none 0 0, .slice none 0 0, .slice none 0 0, .slice none 0 0] 22)) := by kernel_rfl
theorem mk76_6 (W : World) : (Instr.makeSlice 76 (.int .i64 6) (.int .i64 6)).run Try.prog W = .ok (.slice (some ⟨W.heap.size, 0, none⟩) 6 6) (W.alloc (.cells #[.slice none 0 0, .slice none 0 0, .slice none 0 0, .slice none 0 0, .slice none 0 0, .slice none 0 0] 22)) := by kernel_rfl
theorem mk76_7 (W : World) : (Instr.makeSlice 76 (.int .i64 7) (.int .i64 7)).run Try.prog W = .ok (.slice (some ⟨W.heap.size, 0, none⟩) 7 7) (W.alloc (.cells #[.slice none 0 0, .slice none 0 0, .slice none 0 0, .slice none 0 0, .slice none 0 0, .slice none 0 0, .slice none 0 0] 22)) := by kernel_rfl
theorem mk76_8 (W : World) : (Instr.makeSlice 76 (.int .i64 8) (.int .i64 8)).run Try.prog W = .ok (.slice (some ⟨W.heap.size, 0, none⟩) 8 8) (W.alloc (.cells #[.slice none 0 0, .slice none 0 0, .slice none 0 0, .slice none 0 0, .slice none 0 0, .slice none 0 0, .slice none 0 0, .slice none 0 0] 22)) := by kernel_rfl
theorem mk77_0 (W : World) : (Instr.makeSlice 77 (.int .i64 0) (.int .i64 0)).run Try.prog W = .ok (.slice (some ⟨W.heap.size, 0, none⟩) 0 0) (W.alloc (.cells #[] 4)) := by kernel_rfl
theorem mk77_1 (W : World) : (Instr.makeSlice 77 (.int .i64 1) (.int .i64 1)).run Try.prog W = .ok (.slice (some ⟨W.heap.size, 0, none⟩) 1 1) (W.alloc (.cells #[.bool false] 4)) := by kernel_rfl
theorem mk77_2 (W : World) : (Instr.makeSlice 77 (.int .i64 2) (.int .i64 2)).run Try.prog W = .ok (.slice (some ⟨W.heap.size, 0, none⟩) 2 2) (W.alloc (.cells #[.bool false, .bool false] 4)) := by kernel_rfl
theorem mk77_3 (W : World) : (Instr.makeSlice 77 (.int .i64 3) (.int .i64 3)).run Try.prog W = .ok (.slice (some ⟨W.heap.size, 0, none⟩) 3 3) (W.alloc (.cells #[.bool false, .bool false, .bool false] 4)) := by kernel_rfl
theorem mk77_4 (W : World) : (Instr.makeSlice 77 (.int .i64 4) (.int .i64 4)).run Try.prog W = .ok (.slice (some ⟨W.heap.size, 0, none⟩) 4 4) (W.alloc (.cells #[.bool false, .bool false, .bool false, .bool false] 4)) := by kernel_rfl
theorem mk77_5 (W : World) : (Instr.makeSlice 77 (.int .i64 5) (.int .i64 5)).run Try.prog W = .ok (.slice (some ⟨W.heap.size, 0, none⟩) 5 5) (W.alloc (.cells #[.bool false, .bool false, .bool false, .bool false, .bool false] 4)) := by kernel_rfl
theorem mk77_6 (W : World) : (Instr.makeSlice 77 (.int .i64 6) (.int .i64 6)).run Try.prog W = .ok (.slice (some ⟨W.heap.size, 0, none⟩) 6 6) (W.alloc (.cells #[.bool false, .bool false, .bool false, .bool false, .bool false, .bool false] 4)) := by kernel_rfl
theorem mk77_7 (W : World) : (Instr.makeSlice 77 (.int .i64 7) (.int .i64 7)).run Try.prog W = .ok (.slice (some ⟨W.heap.size, 0, none⟩) 7 7) (W.alloc (.cells #[.bool false, .bool false, .bool false, .bool false, .bool false, .bool false, .bool false] 4)) := by kernel_rfl
theorem mk77_8 (W : World) : (Instr.makeSlice 77 (.int .i64 8) (.int .i64 8)).run Try.prog W = .ok (.slice (some ⟨W.heap.size, 0, none⟩) 8 8) (W.alloc (.cells #[.bool false, .bool false, .bool false, .bool false, .bool false, .bool false, .bool false, .bool false] 4)) := by kernel_rfl
theorem mk34 (n : Nat) (h : n ≤ 8) (W : World) : (Instr.makeSlice 34 (.int .i64 (n : Int)) (.int .i64 (n : Int))).run Try.prog W = .ok (.slice (some ⟨W.heap.size, 0, none⟩) n n) (W.alloc (.cells (cellsN (List.replicate n 0)).toArray 3)) := by
  have hn : n = 0 ∨ n = 1 ∨ n = 2 ∨ n = 3 ∨ n = 4 ∨ n = 5 ∨ n = 6 ∨ n = 7 ∨ n = 8 := by omega
  clear h
  rcases hn with rfl | rfl | rfl | rfl | rfl | rfl | rfl | rfl | rfl
  · exact mk34_0 W
  · exact mk34_1 W
  · exact mk34_2 W
  · exact mk34_3 W
  · exact mk34_4 W
  · exact mk34_5 W
  · exact mk34_6 W
  · exact mk34_7 W
  · exact mk34_8 W
theorem mk76 (n : Nat) (h : n ≤ 8) (W : World) : (Instr.makeSlice 76 (.int .i64 (n : Int)) (.int .i64 (n : Int))).run Try.prog W = .ok (.slice (some ⟨W.heap.size, 0, none⟩) n n) (W.alloc (.cells (List.replicate n (.slice none 0 0)).toArray 22)) := by
  have hn : n = 0 ∨ n = 1 ∨ n = 2 ∨ n = 3 ∨ n = 4 ∨ n = 5 ∨ n = 6 ∨ n = 7 ∨ n = 8 := by omega
  clear h
  rcases hn with rfl | rfl | rfl | rfl | rfl | rfl | rfl | rfl | rfl
  · exact mk76_0 W
  · exact mk76_1 W
  · exact mk76_2 W
  · exact mk76_3 W
  · exact mk76_4 W
  · exact mk76_5 W
  · exact mk76_6 W
  · exact mk76_7 W
  · exact mk76_8 W
theorem mk77 (n : Nat) (h : n ≤ 8) (W : World) : (Instr.makeSlice 77 (.int .i64 (n : Int)) (.int .i64 (n : Int))).run Try.prog W = .ok (.slice (some ⟨W.heap.size, 0, none⟩) n n) (W.alloc (.cells (cellsB (List.replicate n false)).toArray 4)) := by
  have hn : n = 0 ∨ n = 1 ∨ n = 2 ∨ n = 3 ∨ n = 4 ∨ n = 5 ∨ n = 6 ∨ n = 7 ∨ n = 8 := by omega
  clear h
  rcases hn with rfl | rfl | rfl | rfl | rfl | rfl | rfl | rfl | rfl
  · exact mk77_0 W
  · exact mk77_1 W
  · exact mk77_2 W
  · exact mk77_3 W
  · exact mk77_4 W
  · exact mk77_5 W
  · exact mk77_6 W
  · exact mk77_7 W
  · exact mk77_8 W
theorem Blk.drew' {w : World} {g t : Nat} {cs : Array Value} (h : Blk w g t cs) : Blk w.drew g t cs := h
theorem Blk.new' (w : World) (t : TypeId) (cs : Array Value) (g : Nat) (h : g = w.heap.size) : Blk (w.alloc (.cells cs t)) g t cs := by subst h; exact Blk.new w t cs
theorem rnew_rep {w : World} {m d r q n : Nat} {X3 X2 X4 : Array Value} (hm : Blk w m 79 #[.slice (some ⟨d, 0, none⟩) n n, .slice (some ⟨r, 0, none⟩) n n, .int .i64 0, .bool false, .slice (some ⟨q, 0, none⟩) n n])
    (hd : Blk w d 3 X3) (hr : Blk w r 22 X2) (hq : Blk w q 4 X4) (h3 : X3 = (cellsN (List.replicate n 0)).toArray) (h4 : X4 = (cellsB (List.replicate n false)).toArray) (h2 : X2 = (List.replicate n (.slice none 0 0)).toArray) : RRep w m d r q (Gr.new n) := by
  subst h3 h4 h2
  have hl : (Gr.new n).deep.length = n := by simp [Gr.new]
  refine ⟨by rw [hl]; exact hm, hd, ⟨_, hr, by simp [Gr.new], fun j hj => ⟨.slice none 0 0, ?_, none, 0, 0, rfl, Nat.le_refl _, Nat.zero_le _, ?_⟩⟩, hq⟩
  · rw [hl] at hj
    simp [hj]
  · have : (Gr.new n).rows.getD j [] = [] := by simp [Gr.new, List.getD_eq_getElem?_getD, List.getElem?_replicate]; split <;> rfl
    rw [this]
    exact OwnR.nil _ _ _

set_option maxHeartbeats 1600000 in
theorem rnew_ok (n : Nat) (h1 : 1 ≤ n) (h8 : n ≤ 8) (w : World) : Calls Try.prog 25 #[.int .i64 (n : Int)] w fun e w' => ∃ m d r q, e = .returned (.tuple #[.pointer (some ⟨m, 0, none⟩), .int .i64 0]) ∧ (w.heap.size ≤ m ∧ w.heap.size ≤ d ∧ w.heap.size ≤ r ∧ w.heap.size ≤ q) ∧ RRep w' m d r q (Gr.new n) ∧ Below w.heap.size w w' := by
  have k3 := fun W => mk34 n h8 W
  have k4 := fun W => mk77 n h8 W
  have k2 := fun W => mk76 n h8 W
  obtain ⟨X3, hX3⟩ : ∃ X, X = (cellsN (List.replicate n 0)).toArray := ⟨_, rfl⟩
  obtain ⟨X4, hX4⟩ : ∃ X, X = (cellsB (List.replicate n false)).toArray := ⟨_, rfl⟩
  obtain ⟨X2, hX2⟩ : ∃ X : Array Value, X = (List.replicate n (.slice none 0 0)).toArray := ⟨_, rfl⟩
  simp only [← hX3] at k3
  simp only [← hX4] at k4
  simp only [← hX2] at k2
  have H3 := hid hX3; have H4 := hid hX4; have H2 := hid hX2
  clear hX2 hX3 hX4
  go_enter Try.func25, Try.ntmps25
  go_wp2
  go_region
  all_goals
    go_wp2
    go_ret2
    first
      | (refine ⟨w.heap.size + 1 + 1 + 1, w.heap.size, w.heap.size + 1, w.heap.size + 1 + 1, rfl, ⟨by omega, by omega, by omega, by omega⟩, rnew_rep (X3 := X3) (X2 := X2) (X4 := X4) (Blk.drew' ?_) (Blk.drew' ?_) (Blk.drew' ?_) (Blk.drew' ?_) H3.out H4.out H2.out, ?_⟩
         · first | (refine Blk.new' _ _ _ _ ?_; simp; done) | (refine Blk.alloc (Blk.new' _ _ _ _ ?_) _; simp; done) | (refine Blk.alloc (Blk.alloc (Blk.new' _ _ _ _ ?_) _) _; simp; done) | (refine Blk.alloc (Blk.alloc (Blk.alloc (Blk.new' _ _ _ _ ?_) _) _) _; simp; done) | (refine Blk.alloc (Blk.alloc (Blk.alloc (Blk.new' _ _ _ _ ?_) _) _) _; rfl)
         · first | (refine Blk.new' _ _ _ _ ?_; simp; done) | (refine Blk.alloc (Blk.new' _ _ _ _ ?_) _; simp; done) | (refine Blk.alloc (Blk.alloc (Blk.new' _ _ _ _ ?_) _) _; simp; done) | (refine Blk.alloc (Blk.alloc (Blk.alloc (Blk.new' _ _ _ _ ?_) _) _) _; simp; done) | (refine Blk.alloc (Blk.alloc (Blk.alloc (Blk.new' _ _ _ _ ?_) _) _) _; rfl)
         · first | (refine Blk.new' _ _ _ _ ?_; simp; done) | (refine Blk.alloc (Blk.new' _ _ _ _ ?_) _; simp; done) | (refine Blk.alloc (Blk.alloc (Blk.new' _ _ _ _ ?_) _) _; simp; done) | (refine Blk.alloc (Blk.alloc (Blk.alloc (Blk.new' _ _ _ _ ?_) _) _) _; simp; done) | (refine Blk.alloc (Blk.alloc (Blk.alloc (Blk.new' _ _ _ _ ?_) _) _) _; rfl)
         · first | (refine Blk.new' _ _ _ _ ?_; simp; done) | (refine Blk.alloc (Blk.new' _ _ _ _ ?_) _; simp; done) | (refine Blk.alloc (Blk.alloc (Blk.new' _ _ _ _ ?_) _) _; simp; done) | (refine Blk.alloc (Blk.alloc (Blk.alloc (Blk.new' _ _ _ _ ?_) _) _) _; simp; done) | (refine Blk.alloc (Blk.alloc (Blk.alloc (Blk.new' _ _ _ _ ?_) _) _) _; rfl)
         · (refine Below.drew (Below.alloc (Below.alloc (Below.alloc (Below.alloc (Below.refl _ _) ?_ _) ?_ _) ?_ _) ?_ _); all_goals (first | exact Nat.le_refl _ | (simp; done) | (simp; omega))))
      | (refine ⟨w.heap.size + 1 + 1 + 1, w.heap.size, w.heap.size + 1 + 1, w.heap.size + 1, rfl, ⟨by omega, by omega, by omega, by omega⟩, rnew_rep (X3 := X3) (X2 := X2) (X4 := X4) (Blk.drew' ?_) (Blk.drew' ?_) (Blk.drew' ?_) (Blk.drew' ?_) H3.out H4.out H2.out, ?_⟩
         · first | (refine Blk.new' _ _ _ _ ?_; simp; done) | (refine Blk.alloc (Blk.new' _ _ _ _ ?_) _; simp; done) | (refine Blk.alloc (Blk.alloc (Blk.new' _ _ _ _ ?_) _) _; simp; done) | (refine Blk.alloc (Blk.alloc (Blk.alloc (Blk.new' _ _ _ _ ?_) _) _) _; simp; done) | (refine Blk.alloc (Blk.alloc (Blk.alloc (Blk.new' _ _ _ _ ?_) _) _) _; rfl)
         · first | (refine Blk.new' _ _ _ _ ?_; simp; done) | (refine Blk.alloc (Blk.new' _ _ _ _ ?_) _; simp; done) | (refine Blk.alloc (Blk.alloc (Blk.new' _ _ _ _ ?_) _) _; simp; done) | (refine Blk.alloc (Blk.alloc (Blk.alloc (Blk.new' _ _ _ _ ?_) _) _) _; simp; done) | (refine Blk.alloc (Blk.alloc (Blk.alloc (Blk.new' _ _ _ _ ?_) _) _) _; rfl)
         · first | (refine Blk.new' _ _ _ _ ?_; simp; done) | (refine Blk.alloc (Blk.new' _ _ _ _ ?_) _; simp; done) | (refine Blk.alloc (Blk.alloc (Blk.new' _ _ _ _ ?_) _) _; simp; done) | (refine Blk.alloc (Blk.alloc (Blk.alloc (Blk.new' _ _ _ _ ?_) _) _) _; simp; done) | (refine Blk.alloc (Blk.alloc (Blk.alloc (Blk.new' _ _ _ _ ?_) _) _) _; rfl)
         · first | (refine Blk.new' _ _ _ _ ?_; simp; done) | (refine Blk.alloc (Blk.new' _ _ _ _ ?_) _; simp; done) | (refine Blk.alloc (Blk.alloc (Blk.new' _ _ _ _ ?_) _) _; simp; done) | (refine Blk.alloc (Blk.alloc (Blk.alloc (Blk.new' _ _ _ _ ?_) _) _) _; simp; done) | (refine Blk.alloc (Blk.alloc (Blk.alloc (Blk.new' _ _ _ _ ?_) _) _) _; rfl)
         · (refine Below.drew (Below.alloc (Below.alloc (Below.alloc (Below.alloc (Below.refl _ _) ?_ _) ?_ _) ?_ _) ?_ _); all_goals (first | exact Nat.le_refl _ | (simp; done) | (simp; omega))))
      | (refine ⟨w.heap.size + 1 + 1 + 1, w.heap.size + 1, w.heap.size, w.heap.size + 1 + 1, rfl, ⟨by omega, by omega, by omega, by omega⟩, rnew_rep (X3 := X3) (X2 := X2) (X4 := X4) (Blk.drew' ?_) (Blk.drew' ?_) (Blk.drew' ?_) (Blk.drew' ?_) H3.out H4.out H2.out, ?_⟩
         · first | (refine Blk.new' _ _ _ _ ?_; simp; done) | (refine Blk.alloc (Blk.new' _ _ _ _ ?_) _; simp; done) | (refine Blk.alloc (Blk.alloc (Blk.new' _ _ _ _ ?_) _) _; simp; done) | (refine Blk.alloc (Blk.alloc (Blk.alloc (Blk.new' _ _ _ _ ?_) _) _) _; simp; done) | (refine Blk.alloc (Blk.alloc (Blk.alloc (Blk.new' _ _ _ _ ?_) _) _) _; rfl)
         · first | (refine Blk.new' _ _ _ _ ?_; simp; done) | (refine Blk.alloc (Blk.new' _ _ _ _ ?_) _; simp; done) | (refine Blk.alloc (Blk.alloc (Blk.new' _ _ _ _ ?_) _) _; simp; done) | (refine Blk.alloc (Blk.alloc (Blk.alloc (Blk.new' _ _ _ _ ?_) _) _) _; simp; done) | (refine Blk.alloc (Blk.alloc (Blk.alloc (Blk.new' _ _ _ _ ?_) _) _) _; rfl)
         · first | (refine Blk.new' _ _ _ _ ?_; simp; done) | (refine Blk.alloc (Blk.new' _ _ _ _ ?_) _; simp; done) | (refine Blk.alloc (Blk.alloc (Blk.new' _ _ _ _ ?_) _) _; simp; done) | (refine Blk.alloc (Blk.alloc (Blk.alloc (Blk.new' _ _ _ _ ?_) _) _) _; simp; done) | (refine Blk.alloc (Blk.alloc (Blk.alloc (Blk.new' _ _ _ _ ?_) _) _) _; rfl)
         · first | (refine Blk.new' _ _ _ _ ?_; simp; done) | (refine Blk.alloc (Blk.new' _ _ _ _ ?_) _; simp; done) | (refine Blk.alloc (Blk.alloc (Blk.new' _ _ _ _ ?_) _) _; simp; done) | (refine Blk.alloc (Blk.alloc (Blk.alloc (Blk.new' _ _ _ _ ?_) _) _) _; simp; done) | (refine Blk.alloc (Blk.alloc (Blk.alloc (Blk.new' _ _ _ _ ?_) _) _) _; rfl)
         · (refine Below.drew (Below.alloc (Below.alloc (Below.alloc (Below.alloc (Below.refl _ _) ?_ _) ?_ _) ?_ _) ?_ _); all_goals (first | exact Nat.le_refl _ | (simp; done) | (simp; omega))))
      | (refine ⟨w.heap.size + 1 + 1 + 1, w.heap.size + 1, w.heap.size + 1 + 1, w.heap.size, rfl, ⟨by omega, by omega, by omega, by omega⟩, rnew_rep (X3 := X3) (X2 := X2) (X4 := X4) (Blk.drew' ?_) (Blk.drew' ?_) (Blk.drew' ?_) (Blk.drew' ?_) H3.out H4.out H2.out, ?_⟩
         · first | (refine Blk.new' _ _ _ _ ?_; simp; done) | (refine Blk.alloc (Blk.new' _ _ _ _ ?_) _; simp; done) | (refine Blk.alloc (Blk.alloc (Blk.new' _ _ _ _ ?_) _) _; simp; done) | (refine Blk.alloc (Blk.alloc (Blk.alloc (Blk.new' _ _ _ _ ?_) _) _) _; simp; done) | (refine Blk.alloc (Blk.alloc (Blk.alloc (Blk.new' _ _ _ _ ?_) _) _) _; rfl)
         · first | (refine Blk.new' _ _ _ _ ?_; simp; done) | (refine Blk.alloc (Blk.new' _ _ _ _ ?_) _; simp; done) | (refine Blk.alloc (Blk.alloc (Blk.new' _ _ _ _ ?_) _) _; simp; done) | (refine Blk.alloc (Blk.alloc (Blk.alloc (Blk.new' _ _ _ _ ?_) _) _) _; simp; done) | (refine Blk.alloc (Blk.alloc (Blk.alloc (Blk.new' _ _ _ _ ?_) _) _) _; rfl)
         · first | (refine Blk.new' _ _ _ _ ?_; simp; done) | (refine Blk.alloc (Blk.new' _ _ _ _ ?_) _; simp; done) | (refine Blk.alloc (Blk.alloc (Blk.new' _ _ _ _ ?_) _) _; simp; done) | (refine Blk.alloc (Blk.alloc (Blk.alloc (Blk.new' _ _ _ _ ?_) _) _) _; simp; done) | (refine Blk.alloc (Blk.alloc (Blk.alloc (Blk.new' _ _ _ _ ?_) _) _) _; rfl)
         · first | (refine Blk.new' _ _ _ _ ?_; simp; done) | (refine Blk.alloc (Blk.new' _ _ _ _ ?_) _; simp; done) | (refine Blk.alloc (Blk.alloc (Blk.new' _ _ _ _ ?_) _) _; simp; done) | (refine Blk.alloc (Blk.alloc (Blk.alloc (Blk.new' _ _ _ _ ?_) _) _) _; simp; done) | (refine Blk.alloc (Blk.alloc (Blk.alloc (Blk.new' _ _ _ _ ?_) _) _) _; rfl)
         · (refine Below.drew (Below.alloc (Below.alloc (Below.alloc (Below.alloc (Below.refl _ _) ?_ _) ?_ _) ?_ _) ?_ _); all_goals (first | exact Nat.le_refl _ | (simp; done) | (simp; omega))))
      | (refine ⟨w.heap.size + 1 + 1 + 1, w.heap.size + 1 + 1, w.heap.size, w.heap.size + 1, rfl, ⟨by omega, by omega, by omega, by omega⟩, rnew_rep (X3 := X3) (X2 := X2) (X4 := X4) (Blk.drew' ?_) (Blk.drew' ?_) (Blk.drew' ?_) (Blk.drew' ?_) H3.out H4.out H2.out, ?_⟩
         · first | (refine Blk.new' _ _ _ _ ?_; simp; done) | (refine Blk.alloc (Blk.new' _ _ _ _ ?_) _; simp; done) | (refine Blk.alloc (Blk.alloc (Blk.new' _ _ _ _ ?_) _) _; simp; done) | (refine Blk.alloc (Blk.alloc (Blk.alloc (Blk.new' _ _ _ _ ?_) _) _) _; simp; done) | (refine Blk.alloc (Blk.alloc (Blk.alloc (Blk.new' _ _ _ _ ?_) _) _) _; rfl)
         · first | (refine Blk.new' _ _ _ _ ?_; simp; done) | (refine Blk.alloc (Blk.new' _ _ _ _ ?_) _; simp; done) | (refine Blk.alloc (Blk.alloc (Blk.new' _ _ _ _ ?_) _) _; simp; done) | (refine Blk.alloc (Blk.alloc (Blk.alloc (Blk.new' _ _ _ _ ?_) _) _) _; simp; done) | (refine Blk.alloc (Blk.alloc (Blk.alloc (Blk.new' _ _ _ _ ?_) _) _) _; rfl)
         · first | (refine Blk.new' _ _ _ _ ?_; simp; done) | (refine Blk.alloc (Blk.new' _ _ _ _ ?_) _; simp; done) | (refine Blk.alloc (Blk.alloc (Blk.new' _ _ _ _ ?_) _) _; simp; done) | (refine Blk.alloc (Blk.alloc (Blk.alloc (Blk.new' _ _ _ _ ?_) _) _) _; simp; done) | (refine Blk.alloc (Blk.alloc (Blk.alloc (Blk.new' _ _ _ _ ?_) _) _) _; rfl)
         · first | (refine Blk.new' _ _ _ _ ?_; simp; done) | (refine Blk.alloc (Blk.new' _ _ _ _ ?_) _; simp; done) | (refine Blk.alloc (Blk.alloc (Blk.new' _ _ _ _ ?_) _) _; simp; done) | (refine Blk.alloc (Blk.alloc (Blk.alloc (Blk.new' _ _ _ _ ?_) _) _) _; simp; done) | (refine Blk.alloc (Blk.alloc (Blk.alloc (Blk.new' _ _ _ _ ?_) _) _) _; rfl)
         · (refine Below.drew (Below.alloc (Below.alloc (Below.alloc (Below.alloc (Below.refl _ _) ?_ _) ?_ _) ?_ _) ?_ _); all_goals (first | exact Nat.le_refl _ | (simp; done) | (simp; omega))))
      | (refine ⟨w.heap.size + 1 + 1 + 1, w.heap.size + 1 + 1, w.heap.size + 1, w.heap.size, rfl, ⟨by omega, by omega, by omega, by omega⟩, rnew_rep (X3 := X3) (X2 := X2) (X4 := X4) (Blk.drew' ?_) (Blk.drew' ?_) (Blk.drew' ?_) (Blk.drew' ?_) H3.out H4.out H2.out, ?_⟩
         · first | (refine Blk.new' _ _ _ _ ?_; simp; done) | (refine Blk.alloc (Blk.new' _ _ _ _ ?_) _; simp; done) | (refine Blk.alloc (Blk.alloc (Blk.new' _ _ _ _ ?_) _) _; simp; done) | (refine Blk.alloc (Blk.alloc (Blk.alloc (Blk.new' _ _ _ _ ?_) _) _) _; simp; done) | (refine Blk.alloc (Blk.alloc (Blk.alloc (Blk.new' _ _ _ _ ?_) _) _) _; rfl)
         · first | (refine Blk.new' _ _ _ _ ?_; simp; done) | (refine Blk.alloc (Blk.new' _ _ _ _ ?_) _; simp; done) | (refine Blk.alloc (Blk.alloc (Blk.new' _ _ _ _ ?_) _) _; simp; done) | (refine Blk.alloc (Blk.alloc (Blk.alloc (Blk.new' _ _ _ _ ?_) _) _) _; simp; done) | (refine Blk.alloc (Blk.alloc (Blk.alloc (Blk.new' _ _ _ _ ?_) _) _) _; rfl)
         · first | (refine Blk.new' _ _ _ _ ?_; simp; done) | (refine Blk.alloc (Blk.new' _ _ _ _ ?_) _; simp; done) | (refine Blk.alloc (Blk.alloc (Blk.new' _ _ _ _ ?_) _) _; simp; done) | (refine Blk.alloc (Blk.alloc (Blk.alloc (Blk.new' _ _ _ _ ?_) _) _) _; simp; done) | (refine Blk.alloc (Blk.alloc (Blk.alloc (Blk.new' _ _ _ _ ?_) _) _) _; rfl)
         · first | (refine Blk.new' _ _ _ _ ?_; simp; done) | (refine Blk.alloc (Blk.new' _ _ _ _ ?_) _; simp; done) | (refine Blk.alloc (Blk.alloc (Blk.new' _ _ _ _ ?_) _) _; simp; done) | (refine Blk.alloc (Blk.alloc (Blk.alloc (Blk.new' _ _ _ _ ?_) _) _) _; simp; done) | (refine Blk.alloc (Blk.alloc (Blk.alloc (Blk.new' _ _ _ _ ?_) _) _) _; rfl)
         · (refine Below.drew (Below.alloc (Below.alloc (Below.alloc (Below.alloc (Below.refl _ _) ?_ _) ?_ _) ?_ _) ?_ _); all_goals (first | exact Nat.le_refl _ | (simp; done) | (simp; omega))))
end Go.Proofs.Ytkkbgohijokbhaa
