/- guard.Check. -/
import Derived.Test.YtfnnfnklhejlmaaH
namespace Go.Proofs.Ytfnnfnklhejlmaa
open Go.RowKit

theorem mkf (fn : Fn) (first cap : Array Value) (w : World) : (Instr.makeFunc fn first cap).run Try.prog w = .ok (.func fn first cap) w := rfl

theorem below2 (w : World) (o p : Obj) : Below w.heap.size w ((w.alloc o).alloc p) := ((Below.refl _ _).alloc (Nat.le_refl _) _).alloc (by simp) _
/-- Check's two named results -/
theorem results13 {tmps : Array Value} {w : World} {g : Nat} {i e : Int} (t4 : tmps.getD 4 undef = .pointer (some ⟨g, 0, none⟩)) (t5 : tmps.getD 5 undef = .pointer (some ⟨g + 1, 0, none⟩)) (h1 : w.cell? ⟨g, 0, none⟩ = some (.int .i64 i)) (h2 : w.cell? ⟨g + 1, 0, none⟩ = some (.int .i64 e)) :
    (results Try.f13 tmps).run Try.prog w = .ok (.tuple #[.int .i64 i, .int .i64 e]) w := by
  simp at t4 t5
  simp [results, Try.results13, go_sem, t4, t5, h1, h2]
/-- Check's end, where nothing is deferred -/
theorem checkEnd {R : Ending → World → Prop} {a : Act} {w : World} {g : Nat} {i e : Int} (hd : a.defers = []) (t4 : a.tmps.getD 4 undef = .pointer (some ⟨g, 0, none⟩)) (t5 : a.tmps.getD 5 undef = .pointer (some ⟨g + 1, 0, none⟩)) (h1 : w.cell? ⟨g, 0, none⟩ = some (.int .i64 i)) (h2 : w.cell? ⟨g + 1, 0, none⟩ = some (.int .i64 e))
    (hR : R (.returned (.tuple #[.int .i64 i, .int .i64 e])) w) : bodyPostD Try.prog Try.f13 R .ret a w := by
  show Leaves Try.prog Try.f13 a.tmps R a.defers .returning w
  rw [hd]
  exact ⟨_, results13 t4 t5 h1 h2, hR⟩

set_option maxHeartbeats 1600000 in
theorem check_bad (A : Option Addr) (n c : Nat) (free : Bool) (w : World) (hn : n ≤ maxLen) (h : n < 17 ∨ 1040 < n) :
    Calls Try.prog 13 #[.slice A n c, .bool free] w fun e w' => e = .returned (.tuple #[.int .i64 0, .int .i64 2]) ∧ Below w.heap.size w w' := by
  unfold maxLen at hn
  have hmf := mkf
  have hw : IntKind.i64.wrap ((n : Int) - 16) = (n : Int) - 16 := IntWalk.i64_in _ (by omega)
  rcases h with h | h
  · have h1 : (n : Int) - 16 < 1 := by omega
    go_enter_defers Try.func13, Try.ntmps13
    go_wp2
    refine checkEnd (g := w.heap.size) (i := 0) (e := 2) rfl rfl rfl ?_ ?_ ?_
    · simp [go_sem]
    · simp [go_sem]
    · exact ⟨rfl, below2 _ _ _⟩
  · have h1 : ¬ (n : Int) - 16 < 1 := by omega
    have h2 : 1024 < (n : Int) - 16 := by omega
    go_enter_defers Try.func13, Try.ntmps13
    go_wp2
    refine checkEnd (g := w.heap.size) (i := 0) (e := 2) rfl rfl rfl ?_ ?_ ?_
    · simp [go_sem]
    · simp [go_sem]
    · exact ⟨rfl, below2 _ _ _⟩
end Go.Proofs.Ytfnnfnklhejlmaa
