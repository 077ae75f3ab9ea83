/- guard.Check: the deferred closure; the walk. -/
import Derived.Test.YtfnnfnklhejlmaaG
import Derived.Tactics2
import Derived.Defers
import Derived.Recover
import Derived.Laws.Pointers
namespace Go.Proofs.Ytfnnfnklhejlmaa
open Go.RowKit

theorem tassert41 (p : Int) (w : World) : (Instr.typeAssert (.iface 41 (.int .i64 p)) 20 41 false).run Try.prog w = .ok (.int .i64 p) w := by kernel_rfl
theorem nnil (p : Int) (w : World) : (binOp .neq 20 (.iface 41 (.int .i64 p)) .nilIface).run Try.prog w = .ok (.bool true) w := by kernel_rfl
theorem catch_panicking (a b : Addr) (x y : Int) (p : Int) (older : List PanicEntry) (w : World) (hab : a ≠ b) (ha : w.cell? a = some (.int .i64 x)) (hb : w.cell? b = some (.int .i64 y)) (fa : w.frozen? a = false) (fb : w.frozen? b = false) :
    CallsD Try.prog 23 #[.pointer (some a), .pointer (some b)] (.panicking ({ v := .iface 41 (.int .i64 p), recovered := false } :: older)) w fun e u' w' =>
      e = .returned (.tuple #[]) ∧ u' = .panicking ({ v := .iface 41 (.int .i64 p), recovered := true } :: older) ∧ w' = (w.setCell a (.int .i64 p)).setCell b (.int .i64 180) := by
  have q := tassert41
  have nn := nnil
  have hb2 : (w.setCell a (.int .i64 p)).cell? b = some (.int .i64 y) := (World.cell?_setCell_other w a b _ hab).trans hb
  refine callsD_of_wpS Try.func23 rfl fun c₀ cs hu => ?_
  apply wpS_seq
  apply wpS_region
  simp [wpOpsS, go_sem, recoverD, hu, Try.ntmps23, Exit.thenS]
  apply wpS_seq
  apply wpS_region
  simp [wpOpsS, go_sem, nn]
  refine wpS_cond (t := true) (by simp [Act.eval, Array.replicate]) ?_
  simp only [if_true]
  apply wpS_region
  simp [wpOpsS, go_sem, ha, hb2, fa, fb, q, bodyPostS, results, Try.results23]

theorem nnil0 (w : World) : (binOp .neq 20 .nilIface .nilIface).run Try.prog w = .ok (.bool false) w := by kernel_rfl
theorem catch_idle (a b : Addr) (w : World) :
    CallsD Try.prog 23 #[.pointer (some a), .pointer (some b)] .returning w fun e u' w' => e = .returned (.tuple #[]) ∧ u' = .returning ∧ w' = w := by
  have nn := nnil0
  refine callsD_of_wpS Try.func23 rfl fun c₀ cs hu => ?_
  apply wpS_seq
  apply wpS_region
  simp [wpOpsS, go_sem, recoverD, hu, Try.ntmps23, Exit.thenS]
  apply wpS_seq
  apply wpS_region
  simp [wpOpsS, go_sem, nn]
  refine wpS_cond (t := false) (by simp [Act.eval, Array.replicate]) ?_
  simp only [Bool.false_eq_true, if_false]
  refine wpS_of_wp (wp_skip ?_)
  cases c₀
  simp_all [bodyPostS, results, Try.results23]
end Go.Proofs.Ytfnnfnklhejlmaa
