/- guard.Check of what is in. -/
import Derived.Test.YtfnnfnklhejlmaaI
namespace Go.Proofs.Ytfnnfnklhejlmaa
open Go.RowKit

/-- Check's end behind its deferred call, where nothing was amiss -/
theorem checkOk {R : Ending → World → Prop} {a : Act} {w : World} {g : Nat} {i e : Int} (hd : a.defers = [{ target := .fn (.func 23) #[.pointer (some ⟨g, 0, none⟩), .pointer (some ⟨g + 1, 0, none⟩)], args := #[] }])
    (t4 : a.tmps.getD 4 undef = .pointer (some ⟨g, 0, none⟩)) (t5 : a.tmps.getD 5 undef = .pointer (some ⟨g + 1, 0, none⟩)) (h1 : w.cell? ⟨g, 0, none⟩ = some (.int .i64 i)) (h2 : w.cell? ⟨g + 1, 0, none⟩ = some (.int .i64 e))
    (hR : R (.returned (.tuple #[.int .i64 i, .int .i64 e])) w) : bodyPostD Try.prog Try.f13 R .ret a w := by
  show Leaves Try.prog Try.f13 a.tmps R a.defers .returning w
  rw [hd]
  refine leaves_cons (f := 23) (args := #[.pointer (some ⟨g, 0, none⟩), .pointer (some ⟨g + 1, 0, none⟩)]) (by simp) (by simp [go_sem]) ?_
  refine (catch_idle _ _ _).mono ?_
  rintro e u' w'' ⟨rfl, rfl, rfl⟩
  exact ⟨_, results13 t4 t5 h1 h2, hR⟩

/-- .. where it panicked -/
theorem checkPanic {R : Ending → World → Prop} {a : Act} {w : World} {g : Nat} {p x y : Int} (hd : a.defers = [{ target := .fn (.func 23) #[.pointer (some ⟨g, 0, none⟩), .pointer (some ⟨g + 1, 0, none⟩)], args := #[] }])
    (t4 : a.tmps.getD 4 undef = .pointer (some ⟨g, 0, none⟩)) (t5 : a.tmps.getD 5 undef = .pointer (some ⟨g + 1, 0, none⟩)) (h1 : w.cell? ⟨g, 0, none⟩ = some (.int .i64 x)) (h2 : w.cell? ⟨g + 1, 0, none⟩ = some (.int .i64 y))
    (f1 : w.frozen? ⟨g, 0, none⟩ = false) (f2 : w.frozen? ⟨g + 1, 0, none⟩ = false)
    (hR : R (.returned (.tuple #[.int .i64 p, .int .i64 180])) ((w.setCell ⟨g, 0, none⟩ (.int .i64 p)).setCell ⟨g + 1, 0, none⟩ (.int .i64 180))) : bodyPostD Try.prog Try.f13 R (.panic [{ v := .iface 41 (.int .i64 p), recovered := false }]) a w := by
  show Leaves Try.prog Try.f13 a.tmps R a.defers (.panicking _) w
  rw [hd]
  refine leaves_cons (f := 23) (args := #[.pointer (some ⟨g, 0, none⟩), .pointer (some ⟨g + 1, 0, none⟩)]) (by simp) (by simp [go_sem]) ?_
  have hab : (⟨g, 0, none⟩ : Addr) ≠ ⟨g + 1, 0, none⟩ := by simp
  refine (catch_panicking ⟨g, 0, none⟩ ⟨g + 1, 0, none⟩ x y p [] w hab h1 h2 f1 f2).mono ?_
  rintro e u' w'' ⟨rfl, rfl, rfl⟩
  have c1 : ((w.setCell ⟨g, 0, none⟩ (.int .i64 p)).setCell ⟨g + 1, 0, none⟩ (.int .i64 180)).cell? ⟨g, 0, none⟩ = some (.int .i64 p) := by
    rw [World.cell?_setCell_other _ _ _ _ hab.symm, World.cell?_setCell_same _ _ _ h1]
  have c2 : ((w.setCell ⟨g, 0, none⟩ (.int .i64 p)).setCell ⟨g + 1, 0, none⟩ (.int .i64 180)).cell? ⟨g + 1, 0, none⟩ = some (.int .i64 180) := by
    rw [World.cell?_setCell_same _ _ _ ((World.cell?_setCell_other _ _ _ _ hab).trans h2)]
  exact ⟨_, results13 t4 t5 c1 c2, hR⟩
end Go.Proofs.Ytfnnfnklhejlmaa
